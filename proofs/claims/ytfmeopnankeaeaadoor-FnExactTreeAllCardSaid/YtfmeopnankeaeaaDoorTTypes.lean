/- The types of the seat's program, as the evaluator takes them. -/
import Derived.Test.YtfmeopnankeaeaaDoorProg
import Derived.Test.YtfmeopnankeaeaaDoorTA
set_option linter.unusedSimpArgs false
set_option linter.unusedVariables false
set_option linter.unusedSectionVars false
namespace Go.Proofs.YtfmeopnankeaeaaDoor
def ti : TypeId → TI
  | 1 => ⟨.other, false, 1, 8, [.nilFunc], none⟩
  | 2 => ⟨(.int .i64), false, 1, 8, [.int .i64 0], none⟩
  | 3 => ⟨(.int .i64), false, 1, 8, [.int .i64 0], some .int⟩
  | 4 => ⟨.bool, false, 1, 1, [.bool false], none⟩
  | 5 => ⟨(.int .u8), false, 1, 1, [.int .u8 0], some .byte⟩
  | 6 => ⟨(.int .u8), false, 1, 1, [.int .u8 0], none⟩
  | 7 => ⟨(.st [(0, 2), (1, 3), (2, 4), (3, 6)]), true, 4, 24, [.int .i64 0, .int .i64 0, .bool false, .int .u8 0], none⟩
  | 8 => ⟨(.st [(0, 2), (1, 3), (2, 4), (3, 6)]), true, 4, 24, [.int .i64 0, .int .i64 0, .bool false, .int .u8 0], none⟩
  | 9 => ⟨.str, false, 1, 16, [.string ⟨#[]⟩], some .str⟩
  | 10 => ⟨.str, false, 1, 16, [.string ⟨#[]⟩], none⟩
  | 11 => ⟨.str, false, 1, 16, [.string ⟨#[]⟩], none⟩
  | 12 => ⟨(.int .u64), false, 1, 8, [.int .u64 0], none⟩
  | 13 => ⟨(.st [(0, 9), (1, 12)]), true, 2, 24, [.string ⟨#[]⟩, .int .u64 0], none⟩
  | 14 => ⟨(.st [(0, 9), (1, 12)]), true, 2, 24, [.string ⟨#[]⟩, .int .u64 0], none⟩
  | 15 => ⟨(.ptr 103), false, 1, 8, [.pointer none], none⟩
  | 16 => ⟨(.ptr 106), false, 1, 8, [.pointer none], none⟩
  | 17 => ⟨(.ptr 116), false, 1, 8, [.pointer none], none⟩
  | 18 => ⟨(.st [(0, 17)]), true, 1, 8, [.pointer none], none⟩
  | 19 => ⟨(.st [(0, 17)]), true, 1, 8, [.pointer none], none⟩
  | 20 => ⟨.iface, false, 1, 16, [.nilIface], none⟩
  | 21 => ⟨(.int .i32), false, 1, 4, [.int .i32 0], none⟩
  | 22 => ⟨(.sl 62), false, 1, 24, [.slice none 0 0], none⟩
  | 23 => ⟨(.st [(0, 22)]), true, 1, 24, [.slice none 0 0], none⟩
  | 24 => ⟨(.st [(0, 22)]), true, 1, 24, [.slice none 0 0], none⟩
  | 25 => ⟨.other, false, 1, 8, [.nilFunc], none⟩
  | 26 => ⟨(.sl 9), false, 1, 24, [.slice none 0 0], none⟩
  | 27 => ⟨.other, false, 1, 8, [.nilFunc], none⟩
  | 28 => ⟨(.sl 48), false, 1, 24, [.slice none 0 0], none⟩
  | 29 => ⟨(.st [(0, 28)]), true, 1, 24, [.slice none 0 0], none⟩
  | 30 => ⟨(.st [(0, 28)]), true, 1, 24, [.slice none 0 0], none⟩
  | 31 => ⟨.other, false, 1, 8, [.nilFunc], none⟩
  | 32 => ⟨.other, false, 1, 8, [.nilFunc], none⟩
  | 33 => ⟨.other, false, 1, 8, [.nilFunc], none⟩
  | 34 => ⟨.other, false, 1, 8, [.nilFunc], none⟩
  | 35 => ⟨.other, false, 1, 8, [.nilFunc], none⟩
  | 36 => ⟨.other, false, 1, 8, [.nilFunc], none⟩
  | 37 => ⟨.other, false, 1, 8, [.nilFunc], none⟩
  | 38 => ⟨.other, false, 1, 8, [.nilFunc], none⟩
  | 39 => ⟨(.sl 3), false, 1, 24, [.slice none 0 0], none⟩
  | 40 => ⟨.other, false, 1, 8, [.nilFunc], none⟩
  | 41 => ⟨.other, false, 1, 8, [.nilFunc], none⟩
  | 42 => ⟨.other, false, 1, 8, [.nilFunc], none⟩
  | 43 => ⟨.other, false, 1, 8, [.nilFunc], none⟩
  | 44 => ⟨.other, false, 1, 8, [.nilFunc], none⟩
  | 45 => ⟨.other, false, 1, 8, [.nilFunc], none⟩
  | 46 => ⟨(.arr 8 9), true, 8, 128, [.string ⟨#[]⟩, .string ⟨#[]⟩, .string ⟨#[]⟩, .string ⟨#[]⟩, .string ⟨#[]⟩, .string ⟨#[]⟩, .string ⟨#[]⟩, .string ⟨#[]⟩], none⟩
  | 47 => ⟨(.st [(0, 9), (1, 3), (2, 9), (3, 46)]), true, 11, 168, [.string ⟨#[]⟩, .int .i64 0, .string ⟨#[]⟩, .string ⟨#[]⟩, .string ⟨#[]⟩, .string ⟨#[]⟩, .string ⟨#[]⟩, .string ⟨#[]⟩, .string ⟨#[]⟩, .string ⟨#[]⟩, .string ⟨#[]⟩], none⟩
  | 48 => ⟨(.st [(0, 9), (1, 3), (2, 9), (3, 46)]), true, 11, 168, [.string ⟨#[]⟩, .int .i64 0, .string ⟨#[]⟩, .string ⟨#[]⟩, .string ⟨#[]⟩, .string ⟨#[]⟩, .string ⟨#[]⟩, .string ⟨#[]⟩, .string ⟨#[]⟩, .string ⟨#[]⟩, .string ⟨#[]⟩], some .bset⟩
  | 49 => ⟨.other, false, 1, 8, [.nilFunc], none⟩
  | 50 => ⟨.other, false, 1, 8, [.nilFunc], none⟩
  | 51 => ⟨.other, false, 1, 8, [.nilFunc], none⟩
  | 52 => ⟨.other, false, 1, 8, [.nilFunc], none⟩
  | 53 => ⟨.other, false, 1, 8, [.nilFunc], none⟩
  | 55 => ⟨.other, false, 1, 8, [.nilFunc], none⟩
  | 56 => ⟨.other, false, 1, 8, [.nilFunc], none⟩
  | 58 => ⟨.other, false, 1, 8, [.nilFunc], none⟩
  | 59 => ⟨.other, false, 1, 8, [.nilFunc], none⟩
  | 60 => ⟨.other, false, 1, 8, [.nilFunc], none⟩
  | 61 => ⟨.other, false, 1, 8, [.nilFunc], none⟩
  | 62 => ⟨(.st [(0, 9), (1, 3), (2, 9), (3, 46)]), true, 11, 168, [.string ⟨#[]⟩, .int .i64 0, .string ⟨#[]⟩, .string ⟨#[]⟩, .string ⟨#[]⟩, .string ⟨#[]⟩, .string ⟨#[]⟩, .string ⟨#[]⟩, .string ⟨#[]⟩, .string ⟨#[]⟩, .string ⟨#[]⟩], some .bset⟩
  | 63 => ⟨.other, false, 1, 8, [.nilFunc], none⟩
  | 64 => ⟨.other, false, 1, 8, [.nilFunc], none⟩
  | 65 => ⟨.other, false, 1, 8, [.nilFunc], none⟩
  | 66 => ⟨.other, false, 1, 8, [.nilFunc], none⟩
  | 67 => ⟨.other, false, 1, 8, [.nilFunc], none⟩
  | 68 => ⟨.other, false, 1, 8, [.nilFunc], none⟩
  | 69 => ⟨.other, false, 1, 8, [.nilFunc], none⟩
  | 70 => ⟨(.sl 5), false, 1, 24, [.slice none 0 0], none⟩
  | 71 => ⟨.other, false, 1, 8, [.nilFunc], none⟩
  | 72 => ⟨.other, false, 1, 8, [.nilFunc], none⟩
  | 73 => ⟨.other, false, 1, 8, [.nilFunc], none⟩
  | 74 => ⟨.other, false, 1, 8, [.nilFunc], none⟩
  | 75 => ⟨.other, false, 1, 8, [.nilFunc], none⟩
  | 76 => ⟨.other, false, 1, 8, [.nilFunc], none⟩
  | 77 => ⟨.other, false, 1, 8, [.nilFunc], none⟩
  | 78 => ⟨.other, false, 1, 8, [.nilFunc], none⟩
  | 79 => ⟨.other, false, 1, 8, [.nilFunc], none⟩
  | 80 => ⟨.other, false, 1, 8, [.nilFunc], none⟩
  | 81 => ⟨(.int .u64), false, 1, 8, [.int .u64 0], none⟩
  | 82 => ⟨.other, false, 1, 8, [.nilFunc], none⟩
  | 86 => ⟨.other, false, 1, 8, [.nilFunc], none⟩
  | 87 => ⟨.other, false, 1, 8, [.nilFunc], none⟩
  | 88 => ⟨(.ptr 84), false, 1, 8, [.pointer none], none⟩
  | 89 => ⟨.other, false, 1, 8, [.nilFunc], none⟩
  | 91 => ⟨.other, false, 1, 8, [.nilFunc], none⟩
  | 92 => ⟨.other, false, 1, 8, [.nilFunc], none⟩
  | 93 => ⟨.other, false, 1, 8, [.nilFunc], none⟩
  | 95 => ⟨(.st [(0, 5), (1, 5)]), true, 2, 2, [.int .u8 0, .int .u8 0], none⟩
  | 96 => ⟨(.st [(0, 5), (1, 5)]), true, 2, 2, [.int .u8 0, .int .u8 0], none⟩
  | 97 => ⟨(.arr 16 96), true, 32, 32, [.int .u8 0, .int .u8 0, .int .u8 0, .int .u8 0, .int .u8 0, .int .u8 0, .int .u8 0, .int .u8 0, .int .u8 0, .int .u8 0, .int .u8 0, .int .u8 0, .int .u8 0, .int .u8 0, .int .u8 0, .int .u8 0, .int .u8 0, .int .u8 0, .int .u8 0, .int .u8 0, .int .u8 0, .int .u8 0, .int .u8 0, .int .u8 0, .int .u8 0, .int .u8 0, .int .u8 0, .int .u8 0, .int .u8 0, .int .u8 0, .int .u8 0, .int .u8 0], none⟩
  | 98 => ⟨.other, false, 1, 8, [.nilFunc], none⟩
  | 99 => ⟨.other, false, 1, 8, [.nilFunc], none⟩
  | 100 => ⟨.other, false, 1, 8, [.nilFunc], none⟩
  | 101 => ⟨.other, false, 1, 8, [.nilFunc], none⟩
  | 102 => ⟨(.st [(0, 17), (1, 17), (2, 17), (3, 9)]), true, 4, 40, [.pointer none, .pointer none, .pointer none, .string ⟨#[]⟩], none⟩
  | 103 => ⟨(.st [(0, 17), (1, 17), (2, 17), (3, 9)]), true, 4, 40, [.pointer none, .pointer none, .pointer none, .string ⟨#[]⟩], none⟩
  | 104 => ⟨(.arr 0 16), true, 0, 0, [], none⟩
  | 105 => ⟨(.st [(0, 104)]), true, 0, 0, [], none⟩
  | 106 => ⟨(.st [(0, 104)]), true, 0, 0, [], none⟩
  | 107 => ⟨.other, false, 1, 8, [.nilFunc], none⟩
  | 108 => ⟨(.int .u32), false, 1, 4, [.int .u32 0], none⟩
  | 109 => ⟨(.int .u8), false, 1, 1, [.int .u8 0], none⟩
  | 110 => ⟨(.int .u8), false, 1, 1, [.int .u8 0], none⟩
  | 111 => ⟨.other, false, 1, 8, [.nilFunc], none⟩
  | 112 => ⟨(.ptr 5), false, 1, 8, [.pointer none], none⟩
  | 113 => ⟨(.int .i32), false, 1, 4, [.int .i32 0], none⟩
  | 114 => ⟨(.int .i32), false, 1, 4, [.int .i32 0], none⟩
  | 115 => ⟨(.st [(0, 12), (1, 12), (2, 108), (3, 109), (4, 5), (5, 5), (6, 110), (7, 111), (8, 112), (9, 113), (10, 114)]), true, 11, 48, [.int .u64 0, .int .u64 0, .int .u32 0, .int .u8 0, .int .u8 0, .int .u8 0, .int .u8 0, .nilFunc, .pointer none, .int .i32 0, .int .i32 0], none⟩
  | 116 => ⟨(.st [(0, 12), (1, 12), (2, 108), (3, 109), (4, 5), (5, 5), (6, 110), (7, 111), (8, 112), (9, 113), (10, 114)]), true, 11, 48, [.int .u64 0, .int .u64 0, .int .u32 0, .int .u8 0, .int .u8 0, .int .u8 0, .int .u8 0, .nilFunc, .pointer none, .int .i32 0, .int .i32 0], none⟩
  | 117 => ⟨.other, false, 1, 8, [.nilFunc], none⟩
  | _ => ⟨.other, false, 0, 0, [], none⟩
theorem ti_1 : ti 1 = ⟨.other, false, 1, 8, [.nilFunc], none⟩ := rfl
theorem ti_2 : ti 2 = ⟨(.int .i64), false, 1, 8, [.int .i64 0], none⟩ := rfl
theorem ti_3 : ti 3 = ⟨(.int .i64), false, 1, 8, [.int .i64 0], some .int⟩ := rfl
theorem ti_4 : ti 4 = ⟨.bool, false, 1, 1, [.bool false], none⟩ := rfl
theorem ti_5 : ti 5 = ⟨(.int .u8), false, 1, 1, [.int .u8 0], some .byte⟩ := rfl
theorem ti_6 : ti 6 = ⟨(.int .u8), false, 1, 1, [.int .u8 0], none⟩ := rfl
theorem ti_7 : ti 7 = ⟨(.st [(0, 2), (1, 3), (2, 4), (3, 6)]), true, 4, 24, [.int .i64 0, .int .i64 0, .bool false, .int .u8 0], none⟩ := rfl
theorem ti_8 : ti 8 = ⟨(.st [(0, 2), (1, 3), (2, 4), (3, 6)]), true, 4, 24, [.int .i64 0, .int .i64 0, .bool false, .int .u8 0], none⟩ := rfl
theorem ti_9 : ti 9 = ⟨.str, false, 1, 16, [.string ⟨#[]⟩], some .str⟩ := rfl
theorem ti_10 : ti 10 = ⟨.str, false, 1, 16, [.string ⟨#[]⟩], none⟩ := rfl
theorem ti_11 : ti 11 = ⟨.str, false, 1, 16, [.string ⟨#[]⟩], none⟩ := rfl
theorem ti_12 : ti 12 = ⟨(.int .u64), false, 1, 8, [.int .u64 0], none⟩ := rfl
theorem ti_13 : ti 13 = ⟨(.st [(0, 9), (1, 12)]), true, 2, 24, [.string ⟨#[]⟩, .int .u64 0], none⟩ := rfl
theorem ti_14 : ti 14 = ⟨(.st [(0, 9), (1, 12)]), true, 2, 24, [.string ⟨#[]⟩, .int .u64 0], none⟩ := rfl
theorem ti_15 : ti 15 = ⟨(.ptr 103), false, 1, 8, [.pointer none], none⟩ := rfl
theorem ti_16 : ti 16 = ⟨(.ptr 106), false, 1, 8, [.pointer none], none⟩ := rfl
theorem ti_17 : ti 17 = ⟨(.ptr 116), false, 1, 8, [.pointer none], none⟩ := rfl
theorem ti_18 : ti 18 = ⟨(.st [(0, 17)]), true, 1, 8, [.pointer none], none⟩ := rfl
theorem ti_19 : ti 19 = ⟨(.st [(0, 17)]), true, 1, 8, [.pointer none], none⟩ := rfl
theorem ti_20 : ti 20 = ⟨.iface, false, 1, 16, [.nilIface], none⟩ := rfl
theorem ti_21 : ti 21 = ⟨(.int .i32), false, 1, 4, [.int .i32 0], none⟩ := rfl
theorem ti_22 : ti 22 = ⟨(.sl 62), false, 1, 24, [.slice none 0 0], none⟩ := rfl
theorem ti_23 : ti 23 = ⟨(.st [(0, 22)]), true, 1, 24, [.slice none 0 0], none⟩ := rfl
theorem ti_24 : ti 24 = ⟨(.st [(0, 22)]), true, 1, 24, [.slice none 0 0], none⟩ := rfl
theorem ti_25 : ti 25 = ⟨.other, false, 1, 8, [.nilFunc], none⟩ := rfl
theorem ti_26 : ti 26 = ⟨(.sl 9), false, 1, 24, [.slice none 0 0], none⟩ := rfl
theorem ti_27 : ti 27 = ⟨.other, false, 1, 8, [.nilFunc], none⟩ := rfl
theorem ti_28 : ti 28 = ⟨(.sl 48), false, 1, 24, [.slice none 0 0], none⟩ := rfl
theorem ti_29 : ti 29 = ⟨(.st [(0, 28)]), true, 1, 24, [.slice none 0 0], none⟩ := rfl
theorem ti_30 : ti 30 = ⟨(.st [(0, 28)]), true, 1, 24, [.slice none 0 0], none⟩ := rfl
theorem ti_31 : ti 31 = ⟨.other, false, 1, 8, [.nilFunc], none⟩ := rfl
theorem ti_32 : ti 32 = ⟨.other, false, 1, 8, [.nilFunc], none⟩ := rfl
theorem ti_33 : ti 33 = ⟨.other, false, 1, 8, [.nilFunc], none⟩ := rfl
theorem ti_34 : ti 34 = ⟨.other, false, 1, 8, [.nilFunc], none⟩ := rfl
theorem ti_35 : ti 35 = ⟨.other, false, 1, 8, [.nilFunc], none⟩ := rfl
theorem ti_36 : ti 36 = ⟨.other, false, 1, 8, [.nilFunc], none⟩ := rfl
theorem ti_37 : ti 37 = ⟨.other, false, 1, 8, [.nilFunc], none⟩ := rfl
theorem ti_38 : ti 38 = ⟨.other, false, 1, 8, [.nilFunc], none⟩ := rfl
theorem ti_39 : ti 39 = ⟨(.sl 3), false, 1, 24, [.slice none 0 0], none⟩ := rfl
theorem ti_40 : ti 40 = ⟨.other, false, 1, 8, [.nilFunc], none⟩ := rfl
theorem ti_41 : ti 41 = ⟨.other, false, 1, 8, [.nilFunc], none⟩ := rfl
theorem ti_42 : ti 42 = ⟨.other, false, 1, 8, [.nilFunc], none⟩ := rfl
theorem ti_43 : ti 43 = ⟨.other, false, 1, 8, [.nilFunc], none⟩ := rfl
theorem ti_44 : ti 44 = ⟨.other, false, 1, 8, [.nilFunc], none⟩ := rfl
theorem ti_45 : ti 45 = ⟨.other, false, 1, 8, [.nilFunc], none⟩ := rfl
theorem ti_46 : ti 46 = ⟨(.arr 8 9), true, 8, 128, [.string ⟨#[]⟩, .string ⟨#[]⟩, .string ⟨#[]⟩, .string ⟨#[]⟩, .string ⟨#[]⟩, .string ⟨#[]⟩, .string ⟨#[]⟩, .string ⟨#[]⟩], none⟩ := rfl
theorem ti_47 : ti 47 = ⟨(.st [(0, 9), (1, 3), (2, 9), (3, 46)]), true, 11, 168, [.string ⟨#[]⟩, .int .i64 0, .string ⟨#[]⟩, .string ⟨#[]⟩, .string ⟨#[]⟩, .string ⟨#[]⟩, .string ⟨#[]⟩, .string ⟨#[]⟩, .string ⟨#[]⟩, .string ⟨#[]⟩, .string ⟨#[]⟩], none⟩ := rfl
theorem ti_48 : ti 48 = ⟨(.st [(0, 9), (1, 3), (2, 9), (3, 46)]), true, 11, 168, [.string ⟨#[]⟩, .int .i64 0, .string ⟨#[]⟩, .string ⟨#[]⟩, .string ⟨#[]⟩, .string ⟨#[]⟩, .string ⟨#[]⟩, .string ⟨#[]⟩, .string ⟨#[]⟩, .string ⟨#[]⟩, .string ⟨#[]⟩], some .bset⟩ := rfl
theorem ti_49 : ti 49 = ⟨.other, false, 1, 8, [.nilFunc], none⟩ := rfl
theorem ti_50 : ti 50 = ⟨.other, false, 1, 8, [.nilFunc], none⟩ := rfl
theorem ti_51 : ti 51 = ⟨.other, false, 1, 8, [.nilFunc], none⟩ := rfl
theorem ti_52 : ti 52 = ⟨.other, false, 1, 8, [.nilFunc], none⟩ := rfl
theorem ti_53 : ti 53 = ⟨.other, false, 1, 8, [.nilFunc], none⟩ := rfl
theorem ti_55 : ti 55 = ⟨.other, false, 1, 8, [.nilFunc], none⟩ := rfl
theorem ti_56 : ti 56 = ⟨.other, false, 1, 8, [.nilFunc], none⟩ := rfl
theorem ti_58 : ti 58 = ⟨.other, false, 1, 8, [.nilFunc], none⟩ := rfl
theorem ti_59 : ti 59 = ⟨.other, false, 1, 8, [.nilFunc], none⟩ := rfl
theorem ti_60 : ti 60 = ⟨.other, false, 1, 8, [.nilFunc], none⟩ := rfl
theorem ti_61 : ti 61 = ⟨.other, false, 1, 8, [.nilFunc], none⟩ := rfl
theorem ti_62 : ti 62 = ⟨(.st [(0, 9), (1, 3), (2, 9), (3, 46)]), true, 11, 168, [.string ⟨#[]⟩, .int .i64 0, .string ⟨#[]⟩, .string ⟨#[]⟩, .string ⟨#[]⟩, .string ⟨#[]⟩, .string ⟨#[]⟩, .string ⟨#[]⟩, .string ⟨#[]⟩, .string ⟨#[]⟩, .string ⟨#[]⟩], some .bset⟩ := rfl
theorem ti_63 : ti 63 = ⟨.other, false, 1, 8, [.nilFunc], none⟩ := rfl
theorem ti_64 : ti 64 = ⟨.other, false, 1, 8, [.nilFunc], none⟩ := rfl
theorem ti_65 : ti 65 = ⟨.other, false, 1, 8, [.nilFunc], none⟩ := rfl
theorem ti_66 : ti 66 = ⟨.other, false, 1, 8, [.nilFunc], none⟩ := rfl
theorem ti_67 : ti 67 = ⟨.other, false, 1, 8, [.nilFunc], none⟩ := rfl
theorem ti_68 : ti 68 = ⟨.other, false, 1, 8, [.nilFunc], none⟩ := rfl
theorem ti_69 : ti 69 = ⟨.other, false, 1, 8, [.nilFunc], none⟩ := rfl
theorem ti_70 : ti 70 = ⟨(.sl 5), false, 1, 24, [.slice none 0 0], none⟩ := rfl
theorem ti_71 : ti 71 = ⟨.other, false, 1, 8, [.nilFunc], none⟩ := rfl
theorem ti_72 : ti 72 = ⟨.other, false, 1, 8, [.nilFunc], none⟩ := rfl
theorem ti_73 : ti 73 = ⟨.other, false, 1, 8, [.nilFunc], none⟩ := rfl
theorem ti_74 : ti 74 = ⟨.other, false, 1, 8, [.nilFunc], none⟩ := rfl
theorem ti_75 : ti 75 = ⟨.other, false, 1, 8, [.nilFunc], none⟩ := rfl
theorem ti_76 : ti 76 = ⟨.other, false, 1, 8, [.nilFunc], none⟩ := rfl
theorem ti_77 : ti 77 = ⟨.other, false, 1, 8, [.nilFunc], none⟩ := rfl
theorem ti_78 : ti 78 = ⟨.other, false, 1, 8, [.nilFunc], none⟩ := rfl
theorem ti_79 : ti 79 = ⟨.other, false, 1, 8, [.nilFunc], none⟩ := rfl
theorem ti_80 : ti 80 = ⟨.other, false, 1, 8, [.nilFunc], none⟩ := rfl
theorem ti_81 : ti 81 = ⟨(.int .u64), false, 1, 8, [.int .u64 0], none⟩ := rfl
theorem ti_82 : ti 82 = ⟨.other, false, 1, 8, [.nilFunc], none⟩ := rfl
theorem ti_86 : ti 86 = ⟨.other, false, 1, 8, [.nilFunc], none⟩ := rfl
theorem ti_87 : ti 87 = ⟨.other, false, 1, 8, [.nilFunc], none⟩ := rfl
theorem ti_88 : ti 88 = ⟨(.ptr 84), false, 1, 8, [.pointer none], none⟩ := rfl
theorem ti_89 : ti 89 = ⟨.other, false, 1, 8, [.nilFunc], none⟩ := rfl
theorem ti_91 : ti 91 = ⟨.other, false, 1, 8, [.nilFunc], none⟩ := rfl
theorem ti_92 : ti 92 = ⟨.other, false, 1, 8, [.nilFunc], none⟩ := rfl
theorem ti_93 : ti 93 = ⟨.other, false, 1, 8, [.nilFunc], none⟩ := rfl
theorem ti_95 : ti 95 = ⟨(.st [(0, 5), (1, 5)]), true, 2, 2, [.int .u8 0, .int .u8 0], none⟩ := rfl
theorem ti_96 : ti 96 = ⟨(.st [(0, 5), (1, 5)]), true, 2, 2, [.int .u8 0, .int .u8 0], none⟩ := rfl
theorem ti_97 : ti 97 = ⟨(.arr 16 96), true, 32, 32, [.int .u8 0, .int .u8 0, .int .u8 0, .int .u8 0, .int .u8 0, .int .u8 0, .int .u8 0, .int .u8 0, .int .u8 0, .int .u8 0, .int .u8 0, .int .u8 0, .int .u8 0, .int .u8 0, .int .u8 0, .int .u8 0, .int .u8 0, .int .u8 0, .int .u8 0, .int .u8 0, .int .u8 0, .int .u8 0, .int .u8 0, .int .u8 0, .int .u8 0, .int .u8 0, .int .u8 0, .int .u8 0, .int .u8 0, .int .u8 0, .int .u8 0, .int .u8 0], none⟩ := rfl
theorem ti_98 : ti 98 = ⟨.other, false, 1, 8, [.nilFunc], none⟩ := rfl
theorem ti_99 : ti 99 = ⟨.other, false, 1, 8, [.nilFunc], none⟩ := rfl
theorem ti_100 : ti 100 = ⟨.other, false, 1, 8, [.nilFunc], none⟩ := rfl
theorem ti_101 : ti 101 = ⟨.other, false, 1, 8, [.nilFunc], none⟩ := rfl
theorem ti_102 : ti 102 = ⟨(.st [(0, 17), (1, 17), (2, 17), (3, 9)]), true, 4, 40, [.pointer none, .pointer none, .pointer none, .string ⟨#[]⟩], none⟩ := rfl
theorem ti_103 : ti 103 = ⟨(.st [(0, 17), (1, 17), (2, 17), (3, 9)]), true, 4, 40, [.pointer none, .pointer none, .pointer none, .string ⟨#[]⟩], none⟩ := rfl
theorem ti_104 : ti 104 = ⟨(.arr 0 16), true, 0, 0, [], none⟩ := rfl
theorem ti_105 : ti 105 = ⟨(.st [(0, 104)]), true, 0, 0, [], none⟩ := rfl
theorem ti_106 : ti 106 = ⟨(.st [(0, 104)]), true, 0, 0, [], none⟩ := rfl
theorem ti_107 : ti 107 = ⟨.other, false, 1, 8, [.nilFunc], none⟩ := rfl
theorem ti_108 : ti 108 = ⟨(.int .u32), false, 1, 4, [.int .u32 0], none⟩ := rfl
theorem ti_109 : ti 109 = ⟨(.int .u8), false, 1, 1, [.int .u8 0], none⟩ := rfl
theorem ti_110 : ti 110 = ⟨(.int .u8), false, 1, 1, [.int .u8 0], none⟩ := rfl
theorem ti_111 : ti 111 = ⟨.other, false, 1, 8, [.nilFunc], none⟩ := rfl
theorem ti_112 : ti 112 = ⟨(.ptr 5), false, 1, 8, [.pointer none], none⟩ := rfl
theorem ti_113 : ti 113 = ⟨(.int .i32), false, 1, 4, [.int .i32 0], none⟩ := rfl
theorem ti_114 : ti 114 = ⟨(.int .i32), false, 1, 4, [.int .i32 0], none⟩ := rfl
theorem ti_115 : ti 115 = ⟨(.st [(0, 12), (1, 12), (2, 108), (3, 109), (4, 5), (5, 5), (6, 110), (7, 111), (8, 112), (9, 113), (10, 114)]), true, 11, 48, [.int .u64 0, .int .u64 0, .int .u32 0, .int .u8 0, .int .u8 0, .int .u8 0, .int .u8 0, .nilFunc, .pointer none, .int .i32 0, .int .i32 0], none⟩ := rfl
theorem ti_116 : ti 116 = ⟨(.st [(0, 12), (1, 12), (2, 108), (3, 109), (4, 5), (5, 5), (6, 110), (7, 111), (8, 112), (9, 113), (10, 114)]), true, 11, 48, [.int .u64 0, .int .u64 0, .int .u32 0, .int .u8 0, .int .u8 0, .int .u8 0, .int .u8 0, .nilFunc, .pointer none, .int .i32 0, .int .i32 0], none⟩ := rfl
theorem ti_117 : ti 117 = ⟨.other, false, 1, 8, [.nilFunc], none⟩ := rfl
end Go.Proofs.YtfmeopnankeaeaaDoor
