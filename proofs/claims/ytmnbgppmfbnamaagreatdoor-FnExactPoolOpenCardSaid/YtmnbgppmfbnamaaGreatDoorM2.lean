import Derived.Test.YtmnbgppmfbnamaaGreatDoorProg
import Derived.Test.YtmnbgppmfbnamaaGreatDoorM0
set_option linter.unusedSimpArgs false
set_option linter.unusedVariables false
set_option linter.unusedSectionVars false
/- The types of the seat's program, as the evaluator takes them. -/
namespace Go.Proofs.YtmnbgppmfbnamaaGreatDoor
def ti : TypeId → TI
  | 3 => ⟨(.int .i64), false, 1, 8, [.int .i64 0], some .int, none⟩
  | 4 => ⟨.bool, false, 1, 1, [.bool false], none, none⟩
  | 5 => ⟨(.int .u8), false, 1, 1, [.int .u8 0], some .byte, none⟩
  | 9 => ⟨.str, false, 1, 16, [.string ⟨#[]⟩], some .str, none⟩
  | 22 => ⟨(.sl 5), false, 1, 24, [.slice none 0 0], none, none⟩
  | 24 => ⟨(.st [(0, 3), (1, 9), (2, 9), (3, 3), (4, 9)]), true, 5, 64, [.int .i64 0, .string ⟨#[]⟩, .string ⟨#[]⟩, .int .i64 0, .string ⟨#[]⟩], some .bop, some [.int .i64, .str, .str, .int .i64, .str]⟩
  | 26 => ⟨(.st [(0, 3), (1, 3), (2, 24)]), true, 7, 80, [.int .i64 0, .int .i64 0, .int .i64 0, .string ⟨#[]⟩, .string ⟨#[]⟩, .int .i64 0, .string ⟨#[]⟩], none, some [.int .i64, .int .i64, .int .i64, .str, .str, .int .i64, .str]⟩
  | 32 => ⟨(.sl 9), false, 1, 24, [.slice none 0 0], none, none⟩
  | 33 => ⟨(.arr 2 32), true, 2, 48, [.slice none 0 0, .slice none 0 0], none, none⟩
  | 34 => ⟨(.sl 109), false, 1, 24, [.slice none 0 0], none, none⟩
  | 36 => ⟨(.st [(0, 33), (2, 34)]), true, 3, 72, [.slice none 0 0, .slice none 0 0, .slice none 0 0], none, none⟩
  | 42 => ⟨(.sl 3), false, 1, 24, [.slice none 0 0], none, none⟩
  | 44 => ⟨(.sl 172), false, 1, 24, [.slice none 0 0], none, none⟩
  | 46 => ⟨(.st [(0, 33), (2, 44)]), true, 3, 72, [.slice none 0 0, .slice none 0 0, .slice none 0 0], none, none⟩
  | 48 => ⟨(.sl 24), false, 1, 24, [.slice none 0 0], none, none⟩
  | 56 => ⟨(.sl 182), false, 1, 24, [.slice none 0 0], none, none⟩
  | 57 => ⟨(.sl 203), false, 1, 24, [.slice none 0 0], none, none⟩
  | 58 => ⟨(.sl 179), false, 1, 24, [.slice none 0 0], none, none⟩
  | 60 => ⟨(.st [(0, 3), (1, 56), (2, 57), (3, 58), (4, 4), (5, 42), (6, 3)]), true, 7, 120, [.int .i64 0, .slice none 0 0, .slice none 0 0, .slice none 0 0, .bool false, .slice none 0 0, .int .i64 0], none, none⟩
  | 61 => ⟨(.st [(0, 3), (1, 9), (2, 9), (3, 3), (4, 9)]), true, 5, 64, [.int .i64 0, .string ⟨#[]⟩, .string ⟨#[]⟩, .int .i64 0, .string ⟨#[]⟩], some .bop, some [.int .i64, .str, .str, .int .i64, .str]⟩
  | 64 => ⟨(.sl 190), false, 1, 24, [.slice none 0 0], none, none⟩
  | 65 => ⟨(.sl 201), false, 1, 24, [.slice none 0 0], none, none⟩
  | 66 => ⟨(.sl 187), false, 1, 24, [.slice none 0 0], none, none⟩
  | 68 => ⟨(.st [(0, 3), (1, 64), (2, 65), (3, 66), (4, 4), (5, 42), (6, 3)]), true, 7, 120, [.int .i64 0, .slice none 0 0, .slice none 0 0, .slice none 0 0, .bool false, .slice none 0 0, .int .i64 0], none, none⟩
  | 77 => ⟨.other, false, 1, 8, [.nilFunc], none, none⟩
  | 79 => ⟨(.st [(0, 36), (3, 68), (10, 4)]), true, 11, 200, [.slice none 0 0, .slice none 0 0, .slice none 0 0, .int .i64 0, .slice none 0 0, .slice none 0 0, .slice none 0 0, .bool false, .slice none 0 0, .int .i64 0, .bool false], none, none⟩
  | 84 => ⟨(.ptr 151), false, 1, 8, [.pointer none], none, none⟩
  | 87 => ⟨.other, false, 1, 8, [.nilFunc], none, none⟩
  | 98 => ⟨.iface, false, 1, 16, [.nilIface], none, none⟩
  | 109 => ⟨(.st [(0, 3), (1, 3), (2, 9)]), true, 3, 32, [.int .i64 0, .int .i64 0, .string ⟨#[]⟩], some .late, some [.int .i64, .int .i64, .str]⟩
  | 134 => ⟨(.ptr 36), false, 1, 8, [.pointer none], none, none⟩
  | 135 => ⟨(.ptr 68), false, 1, 8, [.pointer none], none, none⟩
  | 151 => ⟨(.st [(0, 22), (1, 3)]), true, 2, 32, [.slice none 0 0, .int .i64 0], none, none⟩
  | 153 => ⟨(.int .u64), false, 1, 8, [.int .u64 0], none, none⟩
  | 155 => ⟨(.ptr 157), false, 1, 8, [.pointer none], none, none⟩
  | 157 => ⟨(.st [(0, 155), (1, 22)]), true, 2, 32, [.pointer none, .slice none 0 0], none, none⟩
  | 167 => ⟨.other, false, 1, 8, [.nilFunc], none, none⟩
  | 172 => ⟨(.st [(0, 3), (1, 3), (2, 9)]), true, 3, 32, [.int .i64 0, .int .i64 0, .string ⟨#[]⟩], some .late, some [.int .i64, .int .i64, .str]⟩
  | 179 => ⟨(.st [(0, 3), (1, 3), (2, 3)]), true, 3, 24, [.int .i64 0, .int .i64 0, .int .i64 0], some .ptr, some [.int .i64, .int .i64, .int .i64]⟩
  | 180 => ⟨(.arr 8 179), true, 24, 192, [.int .i64 0, .int .i64 0, .int .i64 0, .int .i64 0, .int .i64 0, .int .i64 0, .int .i64 0, .int .i64 0, .int .i64 0, .int .i64 0, .int .i64 0, .int .i64 0, .int .i64 0, .int .i64 0, .int .i64 0, .int .i64 0, .int .i64 0, .int .i64 0, .int .i64 0, .int .i64 0, .int .i64 0, .int .i64 0, .int .i64 0, .int .i64 0], none, none⟩
  | 182 => ⟨(.st [(0, 9), (1, 3), (2, 9), (3, 180), (27, 179), (30, 4)]), true, 31, 264, [.string ⟨#[]⟩, .int .i64 0, .string ⟨#[]⟩, .int .i64 0, .int .i64 0, .int .i64 0, .int .i64 0, .int .i64 0, .int .i64 0, .int .i64 0, .int .i64 0, .int .i64 0, .int .i64 0, .int .i64 0, .int .i64 0, .int .i64 0, .int .i64 0, .int .i64 0, .int .i64 0, .int .i64 0, .int .i64 0, .int .i64 0, .int .i64 0, .int .i64 0, .int .i64 0, .int .i64 0, .int .i64 0, .int .i64 0, .int .i64 0, .int .i64 0, .bool false], some .cset, some [.str, .int .i64, .str, .int .i64, .int .i64, .int .i64, .int .i64, .int .i64, .int .i64, .int .i64, .int .i64, .int .i64, .int .i64, .int .i64, .int .i64, .int .i64, .int .i64, .int .i64, .int .i64, .int .i64, .int .i64, .int .i64, .int .i64, .int .i64, .int .i64, .int .i64, .int .i64, .int .i64, .int .i64, .int .i64, .bool]⟩
  | 186 => ⟨.other, false, 1, 8, [.nilFunc], none, none⟩
  | 187 => ⟨(.st [(0, 3), (1, 3), (2, 3)]), true, 3, 24, [.int .i64 0, .int .i64 0, .int .i64 0], some .ptr, some [.int .i64, .int .i64, .int .i64]⟩
  | 188 => ⟨(.arr 8 187), true, 24, 192, [.int .i64 0, .int .i64 0, .int .i64 0, .int .i64 0, .int .i64 0, .int .i64 0, .int .i64 0, .int .i64 0, .int .i64 0, .int .i64 0, .int .i64 0, .int .i64 0, .int .i64 0, .int .i64 0, .int .i64 0, .int .i64 0, .int .i64 0, .int .i64 0, .int .i64 0, .int .i64 0, .int .i64 0, .int .i64 0, .int .i64 0, .int .i64 0], none, none⟩
  | 190 => ⟨(.st [(0, 9), (1, 3), (2, 9), (3, 188), (27, 187), (30, 4)]), true, 31, 264, [.string ⟨#[]⟩, .int .i64 0, .string ⟨#[]⟩, .int .i64 0, .int .i64 0, .int .i64 0, .int .i64 0, .int .i64 0, .int .i64 0, .int .i64 0, .int .i64 0, .int .i64 0, .int .i64 0, .int .i64 0, .int .i64 0, .int .i64 0, .int .i64 0, .int .i64 0, .int .i64 0, .int .i64 0, .int .i64 0, .int .i64 0, .int .i64 0, .int .i64 0, .int .i64 0, .int .i64 0, .int .i64 0, .int .i64 0, .int .i64 0, .int .i64 0, .bool false], some .cset, some [.str, .int .i64, .str, .int .i64, .int .i64, .int .i64, .int .i64, .int .i64, .int .i64, .int .i64, .int .i64, .int .i64, .int .i64, .int .i64, .int .i64, .int .i64, .int .i64, .int .i64, .int .i64, .int .i64, .int .i64, .int .i64, .int .i64, .int .i64, .int .i64, .int .i64, .int .i64, .int .i64, .int .i64, .int .i64, .bool]⟩
  | 191 => ⟨.other, false, 1, 8, [.nilFunc], none, none⟩
  | 193 => ⟨(.sl 244), false, 1, 24, [.slice none 0 0], none, none⟩
  | 195 => ⟨(.st [(0, 193)]), true, 1, 24, [.slice none 0 0], none, none⟩
  | 201 => ⟨(.st [(0, 3), (1, 3), (2, 3)]), true, 3, 24, [.int .i64 0, .int .i64 0, .int .i64 0], some .ent, some [.int .i64, .int .i64, .int .i64]⟩
  | 203 => ⟨(.st [(0, 3), (1, 3), (2, 3)]), true, 3, 24, [.int .i64 0, .int .i64 0, .int .i64 0], some .ent, some [.int .i64, .int .i64, .int .i64]⟩
  | 216 => ⟨(.ptr 220), false, 1, 8, [.pointer none], none, none⟩
  | 220 => ⟨(.st [(0, 36), (3, 68), (10, 42), (11, 36), (14, 36)]), true, 17, 360, [.slice none 0 0, .slice none 0 0, .slice none 0 0, .int .i64 0, .slice none 0 0, .slice none 0 0, .slice none 0 0, .bool false, .slice none 0 0, .int .i64 0, .slice none 0 0, .slice none 0 0, .slice none 0 0, .slice none 0 0, .slice none 0 0, .slice none 0 0, .slice none 0 0], none, none⟩
  | 227 => ⟨(.ptr 223), false, 1, 8, [.pointer none], none, none⟩
  | 242 => ⟨(.arr 8 9), true, 8, 128, [.string ⟨#[]⟩, .string ⟨#[]⟩, .string ⟨#[]⟩, .string ⟨#[]⟩, .string ⟨#[]⟩, .string ⟨#[]⟩, .string ⟨#[]⟩, .string ⟨#[]⟩], none, none⟩
  | 244 => ⟨(.st [(0, 9), (1, 3), (2, 9), (3, 242)]), true, 11, 168, [.string ⟨#[]⟩, .int .i64 0, .string ⟨#[]⟩, .string ⟨#[]⟩, .string ⟨#[]⟩, .string ⟨#[]⟩, .string ⟨#[]⟩, .string ⟨#[]⟩, .string ⟨#[]⟩, .string ⟨#[]⟩, .string ⟨#[]⟩], some .bset, some [.str, .int .i64, .str, .str, .str, .str, .str, .str, .str, .str, .str]⟩
  | 251 => ⟨.other, false, 1, 8, [.nilFunc], none, none⟩
  | 255 => ⟨(.ptr 259), false, 1, 8, [.pointer none], none, none⟩
  | 259 => ⟨(.st [(0, 36), (3, 42), (4, 3), (5, 4)]), true, 6, 112, [.slice none 0 0, .slice none 0 0, .slice none 0 0, .slice none 0 0, .int .i64 0, .bool false], none, none⟩
  | 286 => ⟨.other, false, 1, 8, [.nilFunc], none, none⟩
  | _ => ⟨.other, false, 0, 0, [], none, none⟩
theorem ti_3 : ti 3 = ⟨(.int .i64), false, 1, 8, [.int .i64 0], some .int, none⟩ := rfl
theorem ti_4 : ti 4 = ⟨.bool, false, 1, 1, [.bool false], none, none⟩ := rfl
theorem ti_5 : ti 5 = ⟨(.int .u8), false, 1, 1, [.int .u8 0], some .byte, none⟩ := rfl
theorem ti_9 : ti 9 = ⟨.str, false, 1, 16, [.string ⟨#[]⟩], some .str, none⟩ := rfl
theorem ti_22 : ti 22 = ⟨(.sl 5), false, 1, 24, [.slice none 0 0], none, none⟩ := rfl
theorem ti_24 : ti 24 = ⟨(.st [(0, 3), (1, 9), (2, 9), (3, 3), (4, 9)]), true, 5, 64, [.int .i64 0, .string ⟨#[]⟩, .string ⟨#[]⟩, .int .i64 0, .string ⟨#[]⟩], some .bop, some [.int .i64, .str, .str, .int .i64, .str]⟩ := rfl
theorem ti_26 : ti 26 = ⟨(.st [(0, 3), (1, 3), (2, 24)]), true, 7, 80, [.int .i64 0, .int .i64 0, .int .i64 0, .string ⟨#[]⟩, .string ⟨#[]⟩, .int .i64 0, .string ⟨#[]⟩], none, some [.int .i64, .int .i64, .int .i64, .str, .str, .int .i64, .str]⟩ := rfl
theorem ti_32 : ti 32 = ⟨(.sl 9), false, 1, 24, [.slice none 0 0], none, none⟩ := rfl
theorem ti_33 : ti 33 = ⟨(.arr 2 32), true, 2, 48, [.slice none 0 0, .slice none 0 0], none, none⟩ := rfl
theorem ti_34 : ti 34 = ⟨(.sl 109), false, 1, 24, [.slice none 0 0], none, none⟩ := rfl
theorem ti_36 : ti 36 = ⟨(.st [(0, 33), (2, 34)]), true, 3, 72, [.slice none 0 0, .slice none 0 0, .slice none 0 0], none, none⟩ := rfl
theorem ti_42 : ti 42 = ⟨(.sl 3), false, 1, 24, [.slice none 0 0], none, none⟩ := rfl
theorem ti_44 : ti 44 = ⟨(.sl 172), false, 1, 24, [.slice none 0 0], none, none⟩ := rfl
theorem ti_46 : ti 46 = ⟨(.st [(0, 33), (2, 44)]), true, 3, 72, [.slice none 0 0, .slice none 0 0, .slice none 0 0], none, none⟩ := rfl
theorem ti_48 : ti 48 = ⟨(.sl 24), false, 1, 24, [.slice none 0 0], none, none⟩ := rfl
theorem ti_56 : ti 56 = ⟨(.sl 182), false, 1, 24, [.slice none 0 0], none, none⟩ := rfl
theorem ti_57 : ti 57 = ⟨(.sl 203), false, 1, 24, [.slice none 0 0], none, none⟩ := rfl
theorem ti_58 : ti 58 = ⟨(.sl 179), false, 1, 24, [.slice none 0 0], none, none⟩ := rfl
theorem ti_60 : ti 60 = ⟨(.st [(0, 3), (1, 56), (2, 57), (3, 58), (4, 4), (5, 42), (6, 3)]), true, 7, 120, [.int .i64 0, .slice none 0 0, .slice none 0 0, .slice none 0 0, .bool false, .slice none 0 0, .int .i64 0], none, none⟩ := rfl
theorem ti_61 : ti 61 = ⟨(.st [(0, 3), (1, 9), (2, 9), (3, 3), (4, 9)]), true, 5, 64, [.int .i64 0, .string ⟨#[]⟩, .string ⟨#[]⟩, .int .i64 0, .string ⟨#[]⟩], some .bop, some [.int .i64, .str, .str, .int .i64, .str]⟩ := rfl
theorem ti_64 : ti 64 = ⟨(.sl 190), false, 1, 24, [.slice none 0 0], none, none⟩ := rfl
theorem ti_65 : ti 65 = ⟨(.sl 201), false, 1, 24, [.slice none 0 0], none, none⟩ := rfl
theorem ti_66 : ti 66 = ⟨(.sl 187), false, 1, 24, [.slice none 0 0], none, none⟩ := rfl
theorem ti_68 : ti 68 = ⟨(.st [(0, 3), (1, 64), (2, 65), (3, 66), (4, 4), (5, 42), (6, 3)]), true, 7, 120, [.int .i64 0, .slice none 0 0, .slice none 0 0, .slice none 0 0, .bool false, .slice none 0 0, .int .i64 0], none, none⟩ := rfl
theorem ti_77 : ti 77 = ⟨.other, false, 1, 8, [.nilFunc], none, none⟩ := rfl
theorem ti_79 : ti 79 = ⟨(.st [(0, 36), (3, 68), (10, 4)]), true, 11, 200, [.slice none 0 0, .slice none 0 0, .slice none 0 0, .int .i64 0, .slice none 0 0, .slice none 0 0, .slice none 0 0, .bool false, .slice none 0 0, .int .i64 0, .bool false], none, none⟩ := rfl
theorem ti_84 : ti 84 = ⟨(.ptr 151), false, 1, 8, [.pointer none], none, none⟩ := rfl
theorem ti_87 : ti 87 = ⟨.other, false, 1, 8, [.nilFunc], none, none⟩ := rfl
theorem ti_98 : ti 98 = ⟨.iface, false, 1, 16, [.nilIface], none, none⟩ := rfl
theorem ti_109 : ti 109 = ⟨(.st [(0, 3), (1, 3), (2, 9)]), true, 3, 32, [.int .i64 0, .int .i64 0, .string ⟨#[]⟩], some .late, some [.int .i64, .int .i64, .str]⟩ := rfl
theorem ti_134 : ti 134 = ⟨(.ptr 36), false, 1, 8, [.pointer none], none, none⟩ := rfl
theorem ti_135 : ti 135 = ⟨(.ptr 68), false, 1, 8, [.pointer none], none, none⟩ := rfl
theorem ti_151 : ti 151 = ⟨(.st [(0, 22), (1, 3)]), true, 2, 32, [.slice none 0 0, .int .i64 0], none, none⟩ := rfl
theorem ti_153 : ti 153 = ⟨(.int .u64), false, 1, 8, [.int .u64 0], none, none⟩ := rfl
theorem ti_155 : ti 155 = ⟨(.ptr 157), false, 1, 8, [.pointer none], none, none⟩ := rfl
theorem ti_157 : ti 157 = ⟨(.st [(0, 155), (1, 22)]), true, 2, 32, [.pointer none, .slice none 0 0], none, none⟩ := rfl
theorem ti_167 : ti 167 = ⟨.other, false, 1, 8, [.nilFunc], none, none⟩ := rfl
theorem ti_172 : ti 172 = ⟨(.st [(0, 3), (1, 3), (2, 9)]), true, 3, 32, [.int .i64 0, .int .i64 0, .string ⟨#[]⟩], some .late, some [.int .i64, .int .i64, .str]⟩ := rfl
theorem ti_179 : ti 179 = ⟨(.st [(0, 3), (1, 3), (2, 3)]), true, 3, 24, [.int .i64 0, .int .i64 0, .int .i64 0], some .ptr, some [.int .i64, .int .i64, .int .i64]⟩ := rfl
theorem ti_180 : ti 180 = ⟨(.arr 8 179), true, 24, 192, [.int .i64 0, .int .i64 0, .int .i64 0, .int .i64 0, .int .i64 0, .int .i64 0, .int .i64 0, .int .i64 0, .int .i64 0, .int .i64 0, .int .i64 0, .int .i64 0, .int .i64 0, .int .i64 0, .int .i64 0, .int .i64 0, .int .i64 0, .int .i64 0, .int .i64 0, .int .i64 0, .int .i64 0, .int .i64 0, .int .i64 0, .int .i64 0], none, none⟩ := rfl
theorem ti_182 : ti 182 = ⟨(.st [(0, 9), (1, 3), (2, 9), (3, 180), (27, 179), (30, 4)]), true, 31, 264, [.string ⟨#[]⟩, .int .i64 0, .string ⟨#[]⟩, .int .i64 0, .int .i64 0, .int .i64 0, .int .i64 0, .int .i64 0, .int .i64 0, .int .i64 0, .int .i64 0, .int .i64 0, .int .i64 0, .int .i64 0, .int .i64 0, .int .i64 0, .int .i64 0, .int .i64 0, .int .i64 0, .int .i64 0, .int .i64 0, .int .i64 0, .int .i64 0, .int .i64 0, .int .i64 0, .int .i64 0, .int .i64 0, .int .i64 0, .int .i64 0, .int .i64 0, .bool false], some .cset, some [.str, .int .i64, .str, .int .i64, .int .i64, .int .i64, .int .i64, .int .i64, .int .i64, .int .i64, .int .i64, .int .i64, .int .i64, .int .i64, .int .i64, .int .i64, .int .i64, .int .i64, .int .i64, .int .i64, .int .i64, .int .i64, .int .i64, .int .i64, .int .i64, .int .i64, .int .i64, .int .i64, .int .i64, .int .i64, .bool]⟩ := rfl
theorem ti_186 : ti 186 = ⟨.other, false, 1, 8, [.nilFunc], none, none⟩ := rfl
theorem ti_187 : ti 187 = ⟨(.st [(0, 3), (1, 3), (2, 3)]), true, 3, 24, [.int .i64 0, .int .i64 0, .int .i64 0], some .ptr, some [.int .i64, .int .i64, .int .i64]⟩ := rfl
theorem ti_188 : ti 188 = ⟨(.arr 8 187), true, 24, 192, [.int .i64 0, .int .i64 0, .int .i64 0, .int .i64 0, .int .i64 0, .int .i64 0, .int .i64 0, .int .i64 0, .int .i64 0, .int .i64 0, .int .i64 0, .int .i64 0, .int .i64 0, .int .i64 0, .int .i64 0, .int .i64 0, .int .i64 0, .int .i64 0, .int .i64 0, .int .i64 0, .int .i64 0, .int .i64 0, .int .i64 0, .int .i64 0], none, none⟩ := rfl
theorem ti_190 : ti 190 = ⟨(.st [(0, 9), (1, 3), (2, 9), (3, 188), (27, 187), (30, 4)]), true, 31, 264, [.string ⟨#[]⟩, .int .i64 0, .string ⟨#[]⟩, .int .i64 0, .int .i64 0, .int .i64 0, .int .i64 0, .int .i64 0, .int .i64 0, .int .i64 0, .int .i64 0, .int .i64 0, .int .i64 0, .int .i64 0, .int .i64 0, .int .i64 0, .int .i64 0, .int .i64 0, .int .i64 0, .int .i64 0, .int .i64 0, .int .i64 0, .int .i64 0, .int .i64 0, .int .i64 0, .int .i64 0, .int .i64 0, .int .i64 0, .int .i64 0, .int .i64 0, .bool false], some .cset, some [.str, .int .i64, .str, .int .i64, .int .i64, .int .i64, .int .i64, .int .i64, .int .i64, .int .i64, .int .i64, .int .i64, .int .i64, .int .i64, .int .i64, .int .i64, .int .i64, .int .i64, .int .i64, .int .i64, .int .i64, .int .i64, .int .i64, .int .i64, .int .i64, .int .i64, .int .i64, .int .i64, .int .i64, .int .i64, .bool]⟩ := rfl
theorem ti_191 : ti 191 = ⟨.other, false, 1, 8, [.nilFunc], none, none⟩ := rfl
theorem ti_193 : ti 193 = ⟨(.sl 244), false, 1, 24, [.slice none 0 0], none, none⟩ := rfl
theorem ti_195 : ti 195 = ⟨(.st [(0, 193)]), true, 1, 24, [.slice none 0 0], none, none⟩ := rfl
theorem ti_201 : ti 201 = ⟨(.st [(0, 3), (1, 3), (2, 3)]), true, 3, 24, [.int .i64 0, .int .i64 0, .int .i64 0], some .ent, some [.int .i64, .int .i64, .int .i64]⟩ := rfl
theorem ti_203 : ti 203 = ⟨(.st [(0, 3), (1, 3), (2, 3)]), true, 3, 24, [.int .i64 0, .int .i64 0, .int .i64 0], some .ent, some [.int .i64, .int .i64, .int .i64]⟩ := rfl
theorem ti_216 : ti 216 = ⟨(.ptr 220), false, 1, 8, [.pointer none], none, none⟩ := rfl
theorem ti_220 : ti 220 = ⟨(.st [(0, 36), (3, 68), (10, 42), (11, 36), (14, 36)]), true, 17, 360, [.slice none 0 0, .slice none 0 0, .slice none 0 0, .int .i64 0, .slice none 0 0, .slice none 0 0, .slice none 0 0, .bool false, .slice none 0 0, .int .i64 0, .slice none 0 0, .slice none 0 0, .slice none 0 0, .slice none 0 0, .slice none 0 0, .slice none 0 0, .slice none 0 0], none, none⟩ := rfl
theorem ti_227 : ti 227 = ⟨(.ptr 223), false, 1, 8, [.pointer none], none, none⟩ := rfl
theorem ti_242 : ti 242 = ⟨(.arr 8 9), true, 8, 128, [.string ⟨#[]⟩, .string ⟨#[]⟩, .string ⟨#[]⟩, .string ⟨#[]⟩, .string ⟨#[]⟩, .string ⟨#[]⟩, .string ⟨#[]⟩, .string ⟨#[]⟩], none, none⟩ := rfl
theorem ti_244 : ti 244 = ⟨(.st [(0, 9), (1, 3), (2, 9), (3, 242)]), true, 11, 168, [.string ⟨#[]⟩, .int .i64 0, .string ⟨#[]⟩, .string ⟨#[]⟩, .string ⟨#[]⟩, .string ⟨#[]⟩, .string ⟨#[]⟩, .string ⟨#[]⟩, .string ⟨#[]⟩, .string ⟨#[]⟩, .string ⟨#[]⟩], some .bset, some [.str, .int .i64, .str, .str, .str, .str, .str, .str, .str, .str, .str]⟩ := rfl
theorem ti_251 : ti 251 = ⟨.other, false, 1, 8, [.nilFunc], none, none⟩ := rfl
theorem ti_255 : ti 255 = ⟨(.ptr 259), false, 1, 8, [.pointer none], none, none⟩ := rfl
theorem ti_259 : ti 259 = ⟨(.st [(0, 36), (3, 42), (4, 3), (5, 4)]), true, 6, 112, [.slice none 0 0, .slice none 0 0, .slice none 0 0, .slice none 0 0, .int .i64 0, .bool false], none, none⟩ := rfl
theorem ti_286 : ti 286 = ⟨.other, false, 1, 8, [.nilFunc], none, none⟩ := rfl
end Go.Proofs.YtmnbgppmfbnamaaGreatDoor
