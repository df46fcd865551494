import Derived.Test.YtjedcphhajlnoaaGreatDoorProg
import Derived.Test.YtjedcphhajlnoaaGreatDoorM0
set_option linter.unusedSimpArgs false
set_option linter.unusedVariables false
set_option linter.unusedSectionVars false
/- The types of the seat's program, as the evaluator takes them. -/
namespace Go.Proofs.YtjedcphhajlnoaaGreatDoor
def ti : TypeId → TI
  | 3 => ⟨(.int .i64), false, 1, 8, [.int .i64 0], some .int, none⟩
  | 4 => ⟨.bool, false, 1, 1, [.bool false], none, none⟩
  | 5 => ⟨(.int .u8), false, 1, 1, [.int .u8 0], some .byte, none⟩
  | 9 => ⟨.str, false, 1, 16, [.string ⟨#[]⟩], some .str, none⟩
  | 22 => ⟨(.sl 9), false, 1, 24, [.slice none 0 0], none, none⟩
  | 23 => ⟨(.arr 2 22), true, 2, 48, [.slice none 0 0, .slice none 0 0], none, none⟩
  | 24 => ⟨(.sl 211), false, 1, 24, [.slice none 0 0], none, none⟩
  | 26 => ⟨(.st [(0, 23), (2, 24)]), true, 3, 72, [.slice none 0 0, .slice none 0 0, .slice none 0 0], none, none⟩
  | 27 => ⟨(.sl 233), false, 1, 24, [.slice none 0 0], none, none⟩
  | 28 => ⟨(.sl 241), false, 1, 24, [.slice none 0 0], none, none⟩
  | 29 => ⟨(.sl 230), false, 1, 24, [.slice none 0 0], none, none⟩
  | 30 => ⟨(.sl 3), false, 1, 24, [.slice none 0 0], none, none⟩
  | 32 => ⟨(.st [(0, 3), (1, 27), (2, 28), (3, 29), (4, 4), (5, 30), (6, 3)]), true, 7, 120, [.int .i64 0, .slice none 0 0, .slice none 0 0, .slice none 0 0, .bool false, .slice none 0 0, .int .i64 0], none, none⟩
  | 34 => ⟨(.st [(0, 26), (3, 32), (10, 4)]), true, 11, 200, [.slice none 0 0, .slice none 0 0, .slice none 0 0, .int .i64 0, .slice none 0 0, .slice none 0 0, .slice none 0 0, .bool false, .slice none 0 0, .int .i64 0, .bool false], none, none⟩
  | 37 => ⟨(.sl 134), false, 1, 24, [.slice none 0 0], none, none⟩
  | 39 => ⟨(.st [(0, 23), (2, 37)]), true, 3, 72, [.slice none 0 0, .slice none 0 0, .slice none 0 0], none, none⟩
  | 40 => ⟨(.sl 123), false, 1, 24, [.slice none 0 0], none, none⟩
  | 41 => ⟨(.sl 236), false, 1, 24, [.slice none 0 0], none, none⟩
  | 42 => ⟨(.sl 55), false, 1, 24, [.slice none 0 0], none, none⟩
  | 44 => ⟨(.st [(0, 3), (1, 40), (2, 41), (3, 42), (4, 4), (5, 30), (6, 3)]), true, 7, 120, [.int .i64 0, .slice none 0 0, .slice none 0 0, .slice none 0 0, .bool false, .slice none 0 0, .int .i64 0], none, none⟩
  | 46 => ⟨(.st [(0, 39), (3, 44), (10, 4)]), true, 11, 200, [.slice none 0 0, .slice none 0 0, .slice none 0 0, .int .i64 0, .slice none 0 0, .slice none 0 0, .slice none 0 0, .bool false, .slice none 0 0, .int .i64 0, .bool false], none, none⟩
  | 53 => ⟨(.sl 5), false, 1, 24, [.slice none 0 0], none, none⟩
  | 55 => ⟨(.st [(0, 3), (1, 3), (2, 3)]), true, 3, 24, [.int .i64 0, .int .i64 0, .int .i64 0], some .ptr, some [.int .i64, .int .i64, .int .i64]⟩
  | 61 => ⟨.other, false, 1, 8, [.nilFunc], none, none⟩
  | 96 => ⟨(.st [(0, 3), (1, 9), (2, 9), (3, 3), (4, 9)]), true, 5, 64, [.int .i64 0, .string ⟨#[]⟩, .string ⟨#[]⟩, .int .i64 0, .string ⟨#[]⟩], some .bop, some [.int .i64, .str, .str, .int .i64, .str]⟩
  | 98 => ⟨(.st [(0, 3), (1, 3), (2, 96)]), true, 7, 80, [.int .i64 0, .int .i64 0, .int .i64 0, .string ⟨#[]⟩, .string ⟨#[]⟩, .int .i64 0, .string ⟨#[]⟩], none, some [.int .i64, .int .i64, .int .i64, .str, .str, .int .i64, .str]⟩
  | 104 => ⟨(.sl 96), false, 1, 24, [.slice none 0 0], none, none⟩
  | 117 => ⟨(.sl 190), false, 1, 24, [.slice none 0 0], none, none⟩
  | 119 => ⟨(.st [(0, 117)]), true, 1, 24, [.slice none 0 0], none, none⟩
  | 121 => ⟨(.arr 8 55), true, 24, 192, [.int .i64 0, .int .i64 0, .int .i64 0, .int .i64 0, .int .i64 0, .int .i64 0, .int .i64 0, .int .i64 0, .int .i64 0, .int .i64 0, .int .i64 0, .int .i64 0, .int .i64 0, .int .i64 0, .int .i64 0, .int .i64 0, .int .i64 0, .int .i64 0, .int .i64 0, .int .i64 0, .int .i64 0, .int .i64 0, .int .i64 0, .int .i64 0], none, none⟩
  | 123 => ⟨(.st [(0, 9), (1, 3), (2, 9), (3, 121), (27, 55), (30, 4)]), true, 31, 264, [.string ⟨#[]⟩, .int .i64 0, .string ⟨#[]⟩, .int .i64 0, .int .i64 0, .int .i64 0, .int .i64 0, .int .i64 0, .int .i64 0, .int .i64 0, .int .i64 0, .int .i64 0, .int .i64 0, .int .i64 0, .int .i64 0, .int .i64 0, .int .i64 0, .int .i64 0, .int .i64 0, .int .i64 0, .int .i64 0, .int .i64 0, .int .i64 0, .int .i64 0, .int .i64 0, .int .i64 0, .int .i64 0, .int .i64 0, .int .i64 0, .int .i64 0, .bool false], some .cset, some [.str, .int .i64, .str, .int .i64, .int .i64, .int .i64, .int .i64, .int .i64, .int .i64, .int .i64, .int .i64, .int .i64, .int .i64, .int .i64, .int .i64, .int .i64, .int .i64, .int .i64, .int .i64, .int .i64, .int .i64, .int .i64, .int .i64, .int .i64, .int .i64, .int .i64, .int .i64, .int .i64, .int .i64, .int .i64, .bool]⟩
  | 126 => ⟨.other, false, 1, 8, [.nilFunc], none, none⟩
  | 134 => ⟨(.st [(0, 3), (1, 3), (2, 9)]), true, 3, 32, [.int .i64 0, .int .i64 0, .string ⟨#[]⟩], some .late, some [.int .i64, .int .i64, .str]⟩
  | 142 => ⟨(.ptr 201), false, 1, 8, [.pointer none], none, none⟩
  | 152 => ⟨.iface, false, 1, 16, [.nilIface], none, none⟩
  | 165 => ⟨.other, false, 1, 8, [.nilFunc], none, none⟩
  | 188 => ⟨(.arr 8 9), true, 8, 128, [.string ⟨#[]⟩, .string ⟨#[]⟩, .string ⟨#[]⟩, .string ⟨#[]⟩, .string ⟨#[]⟩, .string ⟨#[]⟩, .string ⟨#[]⟩, .string ⟨#[]⟩], none, none⟩
  | 190 => ⟨(.st [(0, 9), (1, 3), (2, 9), (3, 188)]), true, 11, 168, [.string ⟨#[]⟩, .int .i64 0, .string ⟨#[]⟩, .string ⟨#[]⟩, .string ⟨#[]⟩, .string ⟨#[]⟩, .string ⟨#[]⟩, .string ⟨#[]⟩, .string ⟨#[]⟩, .string ⟨#[]⟩, .string ⟨#[]⟩], some .bset, some [.str, .int .i64, .str, .str, .str, .str, .str, .str, .str, .str, .str]⟩
  | 194 => ⟨.other, false, 1, 8, [.nilFunc], none, none⟩
  | 198 => ⟨(.ptr 39), false, 1, 8, [.pointer none], none, none⟩
  | 199 => ⟨(.arr 3 3), true, 3, 24, [.int .i64 0, .int .i64 0, .int .i64 0], none, none⟩
  | 201 => ⟨(.st [(0, 53), (1, 3)]), true, 2, 32, [.slice none 0 0, .int .i64 0], none, none⟩
  | 211 => ⟨(.st [(0, 3), (1, 3), (2, 9)]), true, 3, 32, [.int .i64 0, .int .i64 0, .string ⟨#[]⟩], some .late, some [.int .i64, .int .i64, .str]⟩
  | 221 => ⟨(.int .u64), false, 1, 8, [.int .u64 0], none, none⟩
  | 222 => ⟨(.ptr 224), false, 1, 8, [.pointer none], none, none⟩
  | 224 => ⟨(.st [(0, 222), (1, 53)]), true, 2, 32, [.pointer none, .slice none 0 0], none, none⟩
  | 230 => ⟨(.st [(0, 3), (1, 3), (2, 3)]), true, 3, 24, [.int .i64 0, .int .i64 0, .int .i64 0], some .ptr, some [.int .i64, .int .i64, .int .i64]⟩
  | 231 => ⟨(.arr 8 230), true, 24, 192, [.int .i64 0, .int .i64 0, .int .i64 0, .int .i64 0, .int .i64 0, .int .i64 0, .int .i64 0, .int .i64 0, .int .i64 0, .int .i64 0, .int .i64 0, .int .i64 0, .int .i64 0, .int .i64 0, .int .i64 0, .int .i64 0, .int .i64 0, .int .i64 0, .int .i64 0, .int .i64 0, .int .i64 0, .int .i64 0, .int .i64 0, .int .i64 0], none, none⟩
  | 233 => ⟨(.st [(0, 9), (1, 3), (2, 9), (3, 231), (27, 230), (30, 4)]), true, 31, 264, [.string ⟨#[]⟩, .int .i64 0, .string ⟨#[]⟩, .int .i64 0, .int .i64 0, .int .i64 0, .int .i64 0, .int .i64 0, .int .i64 0, .int .i64 0, .int .i64 0, .int .i64 0, .int .i64 0, .int .i64 0, .int .i64 0, .int .i64 0, .int .i64 0, .int .i64 0, .int .i64 0, .int .i64 0, .int .i64 0, .int .i64 0, .int .i64 0, .int .i64 0, .int .i64 0, .int .i64 0, .int .i64 0, .int .i64 0, .int .i64 0, .int .i64 0, .bool false], some .cset, some [.str, .int .i64, .str, .int .i64, .int .i64, .int .i64, .int .i64, .int .i64, .int .i64, .int .i64, .int .i64, .int .i64, .int .i64, .int .i64, .int .i64, .int .i64, .int .i64, .int .i64, .int .i64, .int .i64, .int .i64, .int .i64, .int .i64, .int .i64, .int .i64, .int .i64, .int .i64, .int .i64, .int .i64, .int .i64, .bool]⟩
  | 236 => ⟨(.st [(0, 3), (1, 3), (2, 3)]), true, 3, 24, [.int .i64 0, .int .i64 0, .int .i64 0], some .ent, some [.int .i64, .int .i64, .int .i64]⟩
  | 241 => ⟨(.st [(0, 3), (1, 3), (2, 3)]), true, 3, 24, [.int .i64 0, .int .i64 0, .int .i64 0], some .ent, some [.int .i64, .int .i64, .int .i64]⟩
  | 269 => ⟨(.ptr 265), false, 1, 8, [.pointer none], none, none⟩
  | 274 => ⟨.other, false, 1, 8, [.nilFunc], none, none⟩
  | 296 => ⟨.other, false, 1, 8, [.nilFunc], none, none⟩
  | _ => ⟨.other, false, 0, 0, [], none, none⟩
theorem ti_3 : ti 3 = ⟨(.int .i64), false, 1, 8, [.int .i64 0], some .int, none⟩ := rfl
theorem ti_4 : ti 4 = ⟨.bool, false, 1, 1, [.bool false], none, none⟩ := rfl
theorem ti_5 : ti 5 = ⟨(.int .u8), false, 1, 1, [.int .u8 0], some .byte, none⟩ := rfl
theorem ti_9 : ti 9 = ⟨.str, false, 1, 16, [.string ⟨#[]⟩], some .str, none⟩ := rfl
theorem ti_22 : ti 22 = ⟨(.sl 9), false, 1, 24, [.slice none 0 0], none, none⟩ := rfl
theorem ti_23 : ti 23 = ⟨(.arr 2 22), true, 2, 48, [.slice none 0 0, .slice none 0 0], none, none⟩ := rfl
theorem ti_24 : ti 24 = ⟨(.sl 211), false, 1, 24, [.slice none 0 0], none, none⟩ := rfl
theorem ti_26 : ti 26 = ⟨(.st [(0, 23), (2, 24)]), true, 3, 72, [.slice none 0 0, .slice none 0 0, .slice none 0 0], none, none⟩ := rfl
theorem ti_27 : ti 27 = ⟨(.sl 233), false, 1, 24, [.slice none 0 0], none, none⟩ := rfl
theorem ti_28 : ti 28 = ⟨(.sl 241), false, 1, 24, [.slice none 0 0], none, none⟩ := rfl
theorem ti_29 : ti 29 = ⟨(.sl 230), false, 1, 24, [.slice none 0 0], none, none⟩ := rfl
theorem ti_30 : ti 30 = ⟨(.sl 3), false, 1, 24, [.slice none 0 0], none, none⟩ := rfl
theorem ti_32 : ti 32 = ⟨(.st [(0, 3), (1, 27), (2, 28), (3, 29), (4, 4), (5, 30), (6, 3)]), true, 7, 120, [.int .i64 0, .slice none 0 0, .slice none 0 0, .slice none 0 0, .bool false, .slice none 0 0, .int .i64 0], none, none⟩ := rfl
theorem ti_34 : ti 34 = ⟨(.st [(0, 26), (3, 32), (10, 4)]), true, 11, 200, [.slice none 0 0, .slice none 0 0, .slice none 0 0, .int .i64 0, .slice none 0 0, .slice none 0 0, .slice none 0 0, .bool false, .slice none 0 0, .int .i64 0, .bool false], none, none⟩ := rfl
theorem ti_37 : ti 37 = ⟨(.sl 134), false, 1, 24, [.slice none 0 0], none, none⟩ := rfl
theorem ti_39 : ti 39 = ⟨(.st [(0, 23), (2, 37)]), true, 3, 72, [.slice none 0 0, .slice none 0 0, .slice none 0 0], none, none⟩ := rfl
theorem ti_40 : ti 40 = ⟨(.sl 123), false, 1, 24, [.slice none 0 0], none, none⟩ := rfl
theorem ti_41 : ti 41 = ⟨(.sl 236), false, 1, 24, [.slice none 0 0], none, none⟩ := rfl
theorem ti_42 : ti 42 = ⟨(.sl 55), false, 1, 24, [.slice none 0 0], none, none⟩ := rfl
theorem ti_44 : ti 44 = ⟨(.st [(0, 3), (1, 40), (2, 41), (3, 42), (4, 4), (5, 30), (6, 3)]), true, 7, 120, [.int .i64 0, .slice none 0 0, .slice none 0 0, .slice none 0 0, .bool false, .slice none 0 0, .int .i64 0], none, none⟩ := rfl
theorem ti_46 : ti 46 = ⟨(.st [(0, 39), (3, 44), (10, 4)]), true, 11, 200, [.slice none 0 0, .slice none 0 0, .slice none 0 0, .int .i64 0, .slice none 0 0, .slice none 0 0, .slice none 0 0, .bool false, .slice none 0 0, .int .i64 0, .bool false], none, none⟩ := rfl
theorem ti_53 : ti 53 = ⟨(.sl 5), false, 1, 24, [.slice none 0 0], none, none⟩ := rfl
theorem ti_55 : ti 55 = ⟨(.st [(0, 3), (1, 3), (2, 3)]), true, 3, 24, [.int .i64 0, .int .i64 0, .int .i64 0], some .ptr, some [.int .i64, .int .i64, .int .i64]⟩ := rfl
theorem ti_61 : ti 61 = ⟨.other, false, 1, 8, [.nilFunc], none, none⟩ := rfl
theorem ti_96 : ti 96 = ⟨(.st [(0, 3), (1, 9), (2, 9), (3, 3), (4, 9)]), true, 5, 64, [.int .i64 0, .string ⟨#[]⟩, .string ⟨#[]⟩, .int .i64 0, .string ⟨#[]⟩], some .bop, some [.int .i64, .str, .str, .int .i64, .str]⟩ := rfl
theorem ti_98 : ti 98 = ⟨(.st [(0, 3), (1, 3), (2, 96)]), true, 7, 80, [.int .i64 0, .int .i64 0, .int .i64 0, .string ⟨#[]⟩, .string ⟨#[]⟩, .int .i64 0, .string ⟨#[]⟩], none, some [.int .i64, .int .i64, .int .i64, .str, .str, .int .i64, .str]⟩ := rfl
theorem ti_104 : ti 104 = ⟨(.sl 96), false, 1, 24, [.slice none 0 0], none, none⟩ := rfl
theorem ti_117 : ti 117 = ⟨(.sl 190), false, 1, 24, [.slice none 0 0], none, none⟩ := rfl
theorem ti_119 : ti 119 = ⟨(.st [(0, 117)]), true, 1, 24, [.slice none 0 0], none, none⟩ := rfl
theorem ti_121 : ti 121 = ⟨(.arr 8 55), true, 24, 192, [.int .i64 0, .int .i64 0, .int .i64 0, .int .i64 0, .int .i64 0, .int .i64 0, .int .i64 0, .int .i64 0, .int .i64 0, .int .i64 0, .int .i64 0, .int .i64 0, .int .i64 0, .int .i64 0, .int .i64 0, .int .i64 0, .int .i64 0, .int .i64 0, .int .i64 0, .int .i64 0, .int .i64 0, .int .i64 0, .int .i64 0, .int .i64 0], none, none⟩ := rfl
theorem ti_123 : ti 123 = ⟨(.st [(0, 9), (1, 3), (2, 9), (3, 121), (27, 55), (30, 4)]), true, 31, 264, [.string ⟨#[]⟩, .int .i64 0, .string ⟨#[]⟩, .int .i64 0, .int .i64 0, .int .i64 0, .int .i64 0, .int .i64 0, .int .i64 0, .int .i64 0, .int .i64 0, .int .i64 0, .int .i64 0, .int .i64 0, .int .i64 0, .int .i64 0, .int .i64 0, .int .i64 0, .int .i64 0, .int .i64 0, .int .i64 0, .int .i64 0, .int .i64 0, .int .i64 0, .int .i64 0, .int .i64 0, .int .i64 0, .int .i64 0, .int .i64 0, .int .i64 0, .bool false], some .cset, some [.str, .int .i64, .str, .int .i64, .int .i64, .int .i64, .int .i64, .int .i64, .int .i64, .int .i64, .int .i64, .int .i64, .int .i64, .int .i64, .int .i64, .int .i64, .int .i64, .int .i64, .int .i64, .int .i64, .int .i64, .int .i64, .int .i64, .int .i64, .int .i64, .int .i64, .int .i64, .int .i64, .int .i64, .int .i64, .bool]⟩ := rfl
theorem ti_126 : ti 126 = ⟨.other, false, 1, 8, [.nilFunc], none, none⟩ := rfl
theorem ti_134 : ti 134 = ⟨(.st [(0, 3), (1, 3), (2, 9)]), true, 3, 32, [.int .i64 0, .int .i64 0, .string ⟨#[]⟩], some .late, some [.int .i64, .int .i64, .str]⟩ := rfl
theorem ti_142 : ti 142 = ⟨(.ptr 201), false, 1, 8, [.pointer none], none, none⟩ := rfl
theorem ti_152 : ti 152 = ⟨.iface, false, 1, 16, [.nilIface], none, none⟩ := rfl
theorem ti_165 : ti 165 = ⟨.other, false, 1, 8, [.nilFunc], none, none⟩ := rfl
theorem ti_188 : ti 188 = ⟨(.arr 8 9), true, 8, 128, [.string ⟨#[]⟩, .string ⟨#[]⟩, .string ⟨#[]⟩, .string ⟨#[]⟩, .string ⟨#[]⟩, .string ⟨#[]⟩, .string ⟨#[]⟩, .string ⟨#[]⟩], none, none⟩ := rfl
theorem ti_190 : ti 190 = ⟨(.st [(0, 9), (1, 3), (2, 9), (3, 188)]), true, 11, 168, [.string ⟨#[]⟩, .int .i64 0, .string ⟨#[]⟩, .string ⟨#[]⟩, .string ⟨#[]⟩, .string ⟨#[]⟩, .string ⟨#[]⟩, .string ⟨#[]⟩, .string ⟨#[]⟩, .string ⟨#[]⟩, .string ⟨#[]⟩], some .bset, some [.str, .int .i64, .str, .str, .str, .str, .str, .str, .str, .str, .str]⟩ := rfl
theorem ti_194 : ti 194 = ⟨.other, false, 1, 8, [.nilFunc], none, none⟩ := rfl
theorem ti_198 : ti 198 = ⟨(.ptr 39), false, 1, 8, [.pointer none], none, none⟩ := rfl
theorem ti_199 : ti 199 = ⟨(.arr 3 3), true, 3, 24, [.int .i64 0, .int .i64 0, .int .i64 0], none, none⟩ := rfl
theorem ti_201 : ti 201 = ⟨(.st [(0, 53), (1, 3)]), true, 2, 32, [.slice none 0 0, .int .i64 0], none, none⟩ := rfl
theorem ti_211 : ti 211 = ⟨(.st [(0, 3), (1, 3), (2, 9)]), true, 3, 32, [.int .i64 0, .int .i64 0, .string ⟨#[]⟩], some .late, some [.int .i64, .int .i64, .str]⟩ := rfl
theorem ti_221 : ti 221 = ⟨(.int .u64), false, 1, 8, [.int .u64 0], none, none⟩ := rfl
theorem ti_222 : ti 222 = ⟨(.ptr 224), false, 1, 8, [.pointer none], none, none⟩ := rfl
theorem ti_224 : ti 224 = ⟨(.st [(0, 222), (1, 53)]), true, 2, 32, [.pointer none, .slice none 0 0], none, none⟩ := rfl
theorem ti_230 : ti 230 = ⟨(.st [(0, 3), (1, 3), (2, 3)]), true, 3, 24, [.int .i64 0, .int .i64 0, .int .i64 0], some .ptr, some [.int .i64, .int .i64, .int .i64]⟩ := rfl
theorem ti_231 : ti 231 = ⟨(.arr 8 230), true, 24, 192, [.int .i64 0, .int .i64 0, .int .i64 0, .int .i64 0, .int .i64 0, .int .i64 0, .int .i64 0, .int .i64 0, .int .i64 0, .int .i64 0, .int .i64 0, .int .i64 0, .int .i64 0, .int .i64 0, .int .i64 0, .int .i64 0, .int .i64 0, .int .i64 0, .int .i64 0, .int .i64 0, .int .i64 0, .int .i64 0, .int .i64 0, .int .i64 0], none, none⟩ := rfl
theorem ti_233 : ti 233 = ⟨(.st [(0, 9), (1, 3), (2, 9), (3, 231), (27, 230), (30, 4)]), true, 31, 264, [.string ⟨#[]⟩, .int .i64 0, .string ⟨#[]⟩, .int .i64 0, .int .i64 0, .int .i64 0, .int .i64 0, .int .i64 0, .int .i64 0, .int .i64 0, .int .i64 0, .int .i64 0, .int .i64 0, .int .i64 0, .int .i64 0, .int .i64 0, .int .i64 0, .int .i64 0, .int .i64 0, .int .i64 0, .int .i64 0, .int .i64 0, .int .i64 0, .int .i64 0, .int .i64 0, .int .i64 0, .int .i64 0, .int .i64 0, .int .i64 0, .int .i64 0, .bool false], some .cset, some [.str, .int .i64, .str, .int .i64, .int .i64, .int .i64, .int .i64, .int .i64, .int .i64, .int .i64, .int .i64, .int .i64, .int .i64, .int .i64, .int .i64, .int .i64, .int .i64, .int .i64, .int .i64, .int .i64, .int .i64, .int .i64, .int .i64, .int .i64, .int .i64, .int .i64, .int .i64, .int .i64, .int .i64, .int .i64, .bool]⟩ := rfl
theorem ti_236 : ti 236 = ⟨(.st [(0, 3), (1, 3), (2, 3)]), true, 3, 24, [.int .i64 0, .int .i64 0, .int .i64 0], some .ent, some [.int .i64, .int .i64, .int .i64]⟩ := rfl
theorem ti_241 : ti 241 = ⟨(.st [(0, 3), (1, 3), (2, 3)]), true, 3, 24, [.int .i64 0, .int .i64 0, .int .i64 0], some .ent, some [.int .i64, .int .i64, .int .i64]⟩ := rfl
theorem ti_269 : ti 269 = ⟨(.ptr 265), false, 1, 8, [.pointer none], none, none⟩ := rfl
theorem ti_274 : ti 274 = ⟨.other, false, 1, 8, [.nilFunc], none, none⟩ := rfl
theorem ti_296 : ti 296 = ⟨.other, false, 1, 8, [.nilFunc], none, none⟩ := rfl
end Go.Proofs.YtjedcphhajlnoaaGreatDoor
