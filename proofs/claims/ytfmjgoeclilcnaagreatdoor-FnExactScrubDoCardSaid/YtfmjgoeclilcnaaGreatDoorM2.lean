import Derived.Test.YtfmjgoeclilcnaaGreatDoorProg
import Derived.Test.YtfmjgoeclilcnaaGreatDoorM0
set_option linter.unusedSimpArgs false
set_option linter.unusedVariables false
set_option linter.unusedSectionVars false
namespace Go.Proofs.YtfmjgoeclilcnaaGreatDoor
def ti : TypeId → TI
 | 3 => ⟨(.int .i64), false, 1, 8, [.int .i64 0], some .int, none⟩
 | 4 => ⟨.bool, false, 1, 1, [.bool false], none, none⟩
 | 5 => ⟨(.int .u8), false, 1, 1, [.int .u8 0], some .byte, none⟩
 | 9 => ⟨.str, false, 1, 16, [.string ⟨#[]⟩], some .str, none⟩
 | 22 => ⟨(.sl 9), false, 1, 24, [.slice none 0 0], none, none⟩
 | 23 => ⟨(.arr 2 22), true, 2, 48, [.slice none 0 0, .slice none 0 0], none, none⟩
 | 24 => ⟨(.sl 134), false, 1, 24, [.slice none 0 0], none, none⟩
 | 26 => ⟨(.st [(0, 23), (2, 24)]), true, 3, 72, [.slice none 0 0, .slice none 0 0, .slice none 0 0], none, none⟩
 | 27 => ⟨(.sl 185), false, 1, 24, [.slice none 0 0], none, none⟩
 | 28 => ⟨(.sl 188), false, 1, 24, [.slice none 0 0], none, none⟩
 | 29 => ⟨(.sl 182), false, 1, 24, [.slice none 0 0], none, none⟩
 | 30 => ⟨(.sl 3), false, 1, 24, [.slice none 0 0], none, none⟩
 | 32 => ⟨(.st [(0, 3), (1, 27), (2, 28), (3, 29), (4, 4), (5, 30), (6, 3)]), true, 7, 120, [.int .i64 0, .slice none 0 0, .slice none 0 0, .slice none 0 0, .bool false, .slice none 0 0, .int .i64 0], none, none⟩
 | 34 => ⟨(.st [(0, 26), (3, 32), (10, 4)]), true, 11, 200, [.slice none 0 0, .slice none 0 0, .slice none 0 0, .int .i64 0, .slice none 0 0, .slice none 0 0, .slice none 0 0, .bool false, .slice none 0 0, .int .i64 0, .bool false], none, none⟩
 | 36 => ⟨(.sl 122), false, 1, 24, [.slice none 0 0], none, none⟩
 | 38 => ⟨(.st [(0, 23), (2, 36)]), true, 3, 72, [.slice none 0 0, .slice none 0 0, .slice none 0 0], none, none⟩
 | 39 => ⟨(.sl 93), false, 1, 24, [.slice none 0 0], none, none⟩
 | 40 => ⟨(.sl 151), false, 1, 24, [.slice none 0 0], none, none⟩
 | 41 => ⟨(.sl 71), false, 1, 24, [.slice none 0 0], none, none⟩
 | 43 => ⟨(.st [(0, 3), (1, 39), (2, 40), (3, 41), (4, 4), (5, 30), (6, 3)]), true, 7, 120, [.int .i64 0, .slice none 0 0, .slice none 0 0, .slice none 0 0, .bool false, .slice none 0 0, .int .i64 0], none, none⟩
 | 45 => ⟨(.st [(0, 38), (3, 43), (10, 4)]), true, 11, 200, [.slice none 0 0, .slice none 0 0, .slice none 0 0, .int .i64 0, .slice none 0 0, .slice none 0 0, .slice none 0 0, .bool false, .slice none 0 0, .int .i64 0, .bool false], none, none⟩
 | 71 => ⟨(.st [(0, 3), (1, 3), (2, 3)]), true, 3, 24, [.int .i64 0, .int .i64 0, .int .i64 0], some .ptr, some [.int .i64, .int .i64, .int .i64]⟩
 | 91 => ⟨(.arr 8 71), true, 24, 192, [.int .i64 0, .int .i64 0, .int .i64 0, .int .i64 0, .int .i64 0, .int .i64 0, .int .i64 0, .int .i64 0, .int .i64 0, .int .i64 0, .int .i64 0, .int .i64 0, .int .i64 0, .int .i64 0, .int .i64 0, .int .i64 0, .int .i64 0, .int .i64 0, .int .i64 0, .int .i64 0, .int .i64 0, .int .i64 0, .int .i64 0, .int .i64 0], none, none⟩
 | 93 => ⟨(.st [(0, 9), (1, 3), (2, 9), (3, 91), (27, 71), (30, 4)]), true, 31, 264, [.string ⟨#[]⟩, .int .i64 0, .string ⟨#[]⟩, .int .i64 0, .int .i64 0, .int .i64 0, .int .i64 0, .int .i64 0, .int .i64 0, .int .i64 0, .int .i64 0, .int .i64 0, .int .i64 0, .int .i64 0, .int .i64 0, .int .i64 0, .int .i64 0, .int .i64 0, .int .i64 0, .int .i64 0, .int .i64 0, .int .i64 0, .int .i64 0, .int .i64 0, .int .i64 0, .int .i64 0, .int .i64 0, .int .i64 0, .int .i64 0, .int .i64 0, .bool false], some .cset, some [.str, .int .i64, .str, .int .i64, .int .i64, .int .i64, .int .i64, .int .i64, .int .i64, .int .i64, .int .i64, .int .i64, .int .i64, .int .i64, .int .i64, .int .i64, .int .i64, .int .i64, .int .i64, .int .i64, .int .i64, .int .i64, .int .i64, .int .i64, .int .i64, .int .i64, .int .i64, .int .i64, .int .i64, .int .i64, .bool]⟩
 | 117 => ⟨.other, false, 1, 8, [.nilFunc], none, none⟩
 | 122 => ⟨(.st [(0, 3), (1, 3), (2, 9)]), true, 3, 32, [.int .i64 0, .int .i64 0, .string ⟨#[]⟩], some .late, some [.int .i64, .int .i64, .str]⟩
 | 131 => ⟨(.ptr 38), false, 1, 8, [.pointer none], none, none⟩
 | 134 => ⟨(.st [(0, 3), (1, 3), (2, 9)]), true, 3, 32, [.int .i64 0, .int .i64 0, .string ⟨#[]⟩], some .late, some [.int .i64, .int .i64, .str]⟩
 | 142 => ⟨(.sl 199), false, 1, 24, [.slice none 0 0], none, none⟩
 | 144 => ⟨(.st [(0, 142)]), true, 1, 24, [.slice none 0 0], none, none⟩
 | 148 => ⟨.other, false, 1, 8, [.nilFunc], none, none⟩
 | 151 => ⟨(.st [(0, 3), (1, 3), (2, 3)]), true, 3, 24, [.int .i64 0, .int .i64 0, .int .i64 0], some .ent, some [.int .i64, .int .i64, .int .i64]⟩
 | 156 => ⟨.other, false, 1, 8, [.nilFunc], none, none⟩
 | 159 => ⟨.other, false, 1, 8, [.nilFunc], none, none⟩
 | 171 => ⟨.other, false, 1, 8, [.nilFunc], none, none⟩
 | 182 => ⟨(.st [(0, 3), (1, 3), (2, 3)]), true, 3, 24, [.int .i64 0, .int .i64 0, .int .i64 0], some .ptr, some [.int .i64, .int .i64, .int .i64]⟩
 | 183 => ⟨(.arr 8 182), true, 24, 192, [.int .i64 0, .int .i64 0, .int .i64 0, .int .i64 0, .int .i64 0, .int .i64 0, .int .i64 0, .int .i64 0, .int .i64 0, .int .i64 0, .int .i64 0, .int .i64 0, .int .i64 0, .int .i64 0, .int .i64 0, .int .i64 0, .int .i64 0, .int .i64 0, .int .i64 0, .int .i64 0, .int .i64 0, .int .i64 0, .int .i64 0, .int .i64 0], none, none⟩
 | 185 => ⟨(.st [(0, 9), (1, 3), (2, 9), (3, 183), (27, 182), (30, 4)]), true, 31, 264, [.string ⟨#[]⟩, .int .i64 0, .string ⟨#[]⟩, .int .i64 0, .int .i64 0, .int .i64 0, .int .i64 0, .int .i64 0, .int .i64 0, .int .i64 0, .int .i64 0, .int .i64 0, .int .i64 0, .int .i64 0, .int .i64 0, .int .i64 0, .int .i64 0, .int .i64 0, .int .i64 0, .int .i64 0, .int .i64 0, .int .i64 0, .int .i64 0, .int .i64 0, .int .i64 0, .int .i64 0, .int .i64 0, .int .i64 0, .int .i64 0, .int .i64 0, .bool false], some .cset, some [.str, .int .i64, .str, .int .i64, .int .i64, .int .i64, .int .i64, .int .i64, .int .i64, .int .i64, .int .i64, .int .i64, .int .i64, .int .i64, .int .i64, .int .i64, .int .i64, .int .i64, .int .i64, .int .i64, .int .i64, .int .i64, .int .i64, .int .i64, .int .i64, .int .i64, .int .i64, .int .i64, .int .i64, .int .i64, .bool]⟩
 | 188 => ⟨(.st [(0, 3), (1, 3), (2, 3)]), true, 3, 24, [.int .i64 0, .int .i64 0, .int .i64 0], some .ent, some [.int .i64, .int .i64, .int .i64]⟩
 | 197 => ⟨(.arr 8 9), true, 8, 128, [.string ⟨#[]⟩, .string ⟨#[]⟩, .string ⟨#[]⟩, .string ⟨#[]⟩, .string ⟨#[]⟩, .string ⟨#[]⟩, .string ⟨#[]⟩, .string ⟨#[]⟩], none, none⟩
 | 199 => ⟨(.st [(0, 9), (1, 3), (2, 9), (3, 197)]), true, 11, 168, [.string ⟨#[]⟩, .int .i64 0, .string ⟨#[]⟩, .string ⟨#[]⟩, .string ⟨#[]⟩, .string ⟨#[]⟩, .string ⟨#[]⟩, .string ⟨#[]⟩, .string ⟨#[]⟩, .string ⟨#[]⟩, .string ⟨#[]⟩], some .bset, some [.str, .int .i64, .str, .str, .str, .str, .str, .str, .str, .str, .str]⟩
 | 207 => ⟨.iface, false, 1, 16, [.nilIface], none, none⟩
 | 215 => ⟨.other, false, 1, 8, [.nilFunc], none, none⟩
 | 216 => ⟨(.arr 3 3), true, 3, 24, [.int .i64 0, .int .i64 0, .int .i64 0], none, none⟩
 | 223 => ⟨(.int .u64), false, 1, 8, [.int .u64 0], none, none⟩
 | 225 => ⟨(.sl 5), false, 1, 24, [.slice none 0 0], none, none⟩
 | 238 => ⟨.other, false, 1, 8, [.nilFunc], none, none⟩
 | 264 => ⟨(.ptr 260), false, 1, 8, [.pointer none], none, none⟩
 | 266 => ⟨(.ptr 268), false, 1, 8, [.pointer none], none, none⟩
 | 268 => ⟨(.st [(0, 266), (1, 225)]), true, 2, 32, [.pointer none, .slice none 0 0], none, none⟩
 | _ => ⟨.other, false, 0, 0, [], none, none⟩
theorem ti_3 : ti 3 = ⟨(.int .i64), false, 1, 8, [.int .i64 0], some .int, none⟩ := rfl
theorem ti_4 : ti 4 = ⟨.bool, false, 1, 1, [.bool false], none, none⟩ := rfl
theorem ti_5 : ti 5 = ⟨(.int .u8), false, 1, 1, [.int .u8 0], some .byte, none⟩ := rfl
theorem ti_9 : ti 9 = ⟨.str, false, 1, 16, [.string ⟨#[]⟩], some .str, none⟩ := rfl
theorem ti_22 : ti 22 = ⟨(.sl 9), false, 1, 24, [.slice none 0 0], none, none⟩ := rfl
theorem ti_23 : ti 23 = ⟨(.arr 2 22), true, 2, 48, [.slice none 0 0, .slice none 0 0], none, none⟩ := rfl
theorem ti_24 : ti 24 = ⟨(.sl 134), false, 1, 24, [.slice none 0 0], none, none⟩ := rfl
theorem ti_26 : ti 26 = ⟨(.st [(0, 23), (2, 24)]), true, 3, 72, [.slice none 0 0, .slice none 0 0, .slice none 0 0], none, none⟩ := rfl
theorem ti_27 : ti 27 = ⟨(.sl 185), false, 1, 24, [.slice none 0 0], none, none⟩ := rfl
theorem ti_28 : ti 28 = ⟨(.sl 188), false, 1, 24, [.slice none 0 0], none, none⟩ := rfl
theorem ti_29 : ti 29 = ⟨(.sl 182), false, 1, 24, [.slice none 0 0], none, none⟩ := rfl
theorem ti_30 : ti 30 = ⟨(.sl 3), false, 1, 24, [.slice none 0 0], none, none⟩ := rfl
theorem ti_32 : ti 32 = ⟨(.st [(0, 3), (1, 27), (2, 28), (3, 29), (4, 4), (5, 30), (6, 3)]), true, 7, 120, [.int .i64 0, .slice none 0 0, .slice none 0 0, .slice none 0 0, .bool false, .slice none 0 0, .int .i64 0], none, none⟩ := rfl
theorem ti_34 : ti 34 = ⟨(.st [(0, 26), (3, 32), (10, 4)]), true, 11, 200, [.slice none 0 0, .slice none 0 0, .slice none 0 0, .int .i64 0, .slice none 0 0, .slice none 0 0, .slice none 0 0, .bool false, .slice none 0 0, .int .i64 0, .bool false], none, none⟩ := rfl
theorem ti_36 : ti 36 = ⟨(.sl 122), false, 1, 24, [.slice none 0 0], none, none⟩ := rfl
theorem ti_38 : ti 38 = ⟨(.st [(0, 23), (2, 36)]), true, 3, 72, [.slice none 0 0, .slice none 0 0, .slice none 0 0], none, none⟩ := rfl
theorem ti_39 : ti 39 = ⟨(.sl 93), false, 1, 24, [.slice none 0 0], none, none⟩ := rfl
theorem ti_40 : ti 40 = ⟨(.sl 151), false, 1, 24, [.slice none 0 0], none, none⟩ := rfl
theorem ti_41 : ti 41 = ⟨(.sl 71), false, 1, 24, [.slice none 0 0], none, none⟩ := rfl
theorem ti_43 : ti 43 = ⟨(.st [(0, 3), (1, 39), (2, 40), (3, 41), (4, 4), (5, 30), (6, 3)]), true, 7, 120, [.int .i64 0, .slice none 0 0, .slice none 0 0, .slice none 0 0, .bool false, .slice none 0 0, .int .i64 0], none, none⟩ := rfl
theorem ti_45 : ti 45 = ⟨(.st [(0, 38), (3, 43), (10, 4)]), true, 11, 200, [.slice none 0 0, .slice none 0 0, .slice none 0 0, .int .i64 0, .slice none 0 0, .slice none 0 0, .slice none 0 0, .bool false, .slice none 0 0, .int .i64 0, .bool false], none, none⟩ := rfl
theorem ti_71 : ti 71 = ⟨(.st [(0, 3), (1, 3), (2, 3)]), true, 3, 24, [.int .i64 0, .int .i64 0, .int .i64 0], some .ptr, some [.int .i64, .int .i64, .int .i64]⟩ := rfl
theorem ti_91 : ti 91 = ⟨(.arr 8 71), true, 24, 192, [.int .i64 0, .int .i64 0, .int .i64 0, .int .i64 0, .int .i64 0, .int .i64 0, .int .i64 0, .int .i64 0, .int .i64 0, .int .i64 0, .int .i64 0, .int .i64 0, .int .i64 0, .int .i64 0, .int .i64 0, .int .i64 0, .int .i64 0, .int .i64 0, .int .i64 0, .int .i64 0, .int .i64 0, .int .i64 0, .int .i64 0, .int .i64 0], none, none⟩ := rfl
theorem ti_93 : ti 93 = ⟨(.st [(0, 9), (1, 3), (2, 9), (3, 91), (27, 71), (30, 4)]), true, 31, 264, [.string ⟨#[]⟩, .int .i64 0, .string ⟨#[]⟩, .int .i64 0, .int .i64 0, .int .i64 0, .int .i64 0, .int .i64 0, .int .i64 0, .int .i64 0, .int .i64 0, .int .i64 0, .int .i64 0, .int .i64 0, .int .i64 0, .int .i64 0, .int .i64 0, .int .i64 0, .int .i64 0, .int .i64 0, .int .i64 0, .int .i64 0, .int .i64 0, .int .i64 0, .int .i64 0, .int .i64 0, .int .i64 0, .int .i64 0, .int .i64 0, .int .i64 0, .bool false], some .cset, some [.str, .int .i64, .str, .int .i64, .int .i64, .int .i64, .int .i64, .int .i64, .int .i64, .int .i64, .int .i64, .int .i64, .int .i64, .int .i64, .int .i64, .int .i64, .int .i64, .int .i64, .int .i64, .int .i64, .int .i64, .int .i64, .int .i64, .int .i64, .int .i64, .int .i64, .int .i64, .int .i64, .int .i64, .int .i64, .bool]⟩ := rfl
theorem ti_117 : ti 117 = ⟨.other, false, 1, 8, [.nilFunc], none, none⟩ := rfl
theorem ti_122 : ti 122 = ⟨(.st [(0, 3), (1, 3), (2, 9)]), true, 3, 32, [.int .i64 0, .int .i64 0, .string ⟨#[]⟩], some .late, some [.int .i64, .int .i64, .str]⟩ := rfl
theorem ti_131 : ti 131 = ⟨(.ptr 38), false, 1, 8, [.pointer none], none, none⟩ := rfl
theorem ti_134 : ti 134 = ⟨(.st [(0, 3), (1, 3), (2, 9)]), true, 3, 32, [.int .i64 0, .int .i64 0, .string ⟨#[]⟩], some .late, some [.int .i64, .int .i64, .str]⟩ := rfl
theorem ti_142 : ti 142 = ⟨(.sl 199), false, 1, 24, [.slice none 0 0], none, none⟩ := rfl
theorem ti_144 : ti 144 = ⟨(.st [(0, 142)]), true, 1, 24, [.slice none 0 0], none, none⟩ := rfl
theorem ti_148 : ti 148 = ⟨.other, false, 1, 8, [.nilFunc], none, none⟩ := rfl
theorem ti_151 : ti 151 = ⟨(.st [(0, 3), (1, 3), (2, 3)]), true, 3, 24, [.int .i64 0, .int .i64 0, .int .i64 0], some .ent, some [.int .i64, .int .i64, .int .i64]⟩ := rfl
theorem ti_156 : ti 156 = ⟨.other, false, 1, 8, [.nilFunc], none, none⟩ := rfl
theorem ti_159 : ti 159 = ⟨.other, false, 1, 8, [.nilFunc], none, none⟩ := rfl
theorem ti_171 : ti 171 = ⟨.other, false, 1, 8, [.nilFunc], none, none⟩ := rfl
theorem ti_182 : ti 182 = ⟨(.st [(0, 3), (1, 3), (2, 3)]), true, 3, 24, [.int .i64 0, .int .i64 0, .int .i64 0], some .ptr, some [.int .i64, .int .i64, .int .i64]⟩ := rfl
theorem ti_183 : ti 183 = ⟨(.arr 8 182), true, 24, 192, [.int .i64 0, .int .i64 0, .int .i64 0, .int .i64 0, .int .i64 0, .int .i64 0, .int .i64 0, .int .i64 0, .int .i64 0, .int .i64 0, .int .i64 0, .int .i64 0, .int .i64 0, .int .i64 0, .int .i64 0, .int .i64 0, .int .i64 0, .int .i64 0, .int .i64 0, .int .i64 0, .int .i64 0, .int .i64 0, .int .i64 0, .int .i64 0], none, none⟩ := rfl
theorem ti_185 : ti 185 = ⟨(.st [(0, 9), (1, 3), (2, 9), (3, 183), (27, 182), (30, 4)]), true, 31, 264, [.string ⟨#[]⟩, .int .i64 0, .string ⟨#[]⟩, .int .i64 0, .int .i64 0, .int .i64 0, .int .i64 0, .int .i64 0, .int .i64 0, .int .i64 0, .int .i64 0, .int .i64 0, .int .i64 0, .int .i64 0, .int .i64 0, .int .i64 0, .int .i64 0, .int .i64 0, .int .i64 0, .int .i64 0, .int .i64 0, .int .i64 0, .int .i64 0, .int .i64 0, .int .i64 0, .int .i64 0, .int .i64 0, .int .i64 0, .int .i64 0, .int .i64 0, .bool false], some .cset, some [.str, .int .i64, .str, .int .i64, .int .i64, .int .i64, .int .i64, .int .i64, .int .i64, .int .i64, .int .i64, .int .i64, .int .i64, .int .i64, .int .i64, .int .i64, .int .i64, .int .i64, .int .i64, .int .i64, .int .i64, .int .i64, .int .i64, .int .i64, .int .i64, .int .i64, .int .i64, .int .i64, .int .i64, .int .i64, .bool]⟩ := rfl
theorem ti_188 : ti 188 = ⟨(.st [(0, 3), (1, 3), (2, 3)]), true, 3, 24, [.int .i64 0, .int .i64 0, .int .i64 0], some .ent, some [.int .i64, .int .i64, .int .i64]⟩ := rfl
theorem ti_197 : ti 197 = ⟨(.arr 8 9), true, 8, 128, [.string ⟨#[]⟩, .string ⟨#[]⟩, .string ⟨#[]⟩, .string ⟨#[]⟩, .string ⟨#[]⟩, .string ⟨#[]⟩, .string ⟨#[]⟩, .string ⟨#[]⟩], none, none⟩ := rfl
theorem ti_199 : ti 199 = ⟨(.st [(0, 9), (1, 3), (2, 9), (3, 197)]), true, 11, 168, [.string ⟨#[]⟩, .int .i64 0, .string ⟨#[]⟩, .string ⟨#[]⟩, .string ⟨#[]⟩, .string ⟨#[]⟩, .string ⟨#[]⟩, .string ⟨#[]⟩, .string ⟨#[]⟩, .string ⟨#[]⟩, .string ⟨#[]⟩], some .bset, some [.str, .int .i64, .str, .str, .str, .str, .str, .str, .str, .str, .str]⟩ := rfl
theorem ti_207 : ti 207 = ⟨.iface, false, 1, 16, [.nilIface], none, none⟩ := rfl
theorem ti_215 : ti 215 = ⟨.other, false, 1, 8, [.nilFunc], none, none⟩ := rfl
theorem ti_216 : ti 216 = ⟨(.arr 3 3), true, 3, 24, [.int .i64 0, .int .i64 0, .int .i64 0], none, none⟩ := rfl
theorem ti_223 : ti 223 = ⟨(.int .u64), false, 1, 8, [.int .u64 0], none, none⟩ := rfl
theorem ti_225 : ti 225 = ⟨(.sl 5), false, 1, 24, [.slice none 0 0], none, none⟩ := rfl
theorem ti_238 : ti 238 = ⟨.other, false, 1, 8, [.nilFunc], none, none⟩ := rfl
theorem ti_264 : ti 264 = ⟨(.ptr 260), false, 1, 8, [.pointer none], none, none⟩ := rfl
theorem ti_266 : ti 266 = ⟨(.ptr 268), false, 1, 8, [.pointer none], none, none⟩ := rfl
theorem ti_268 : ti 268 = ⟨(.st [(0, 266), (1, 225)]), true, 2, 32, [.pointer none, .slice none 0 0], none, none⟩ := rfl
end Go.Proofs.YtfmjgoeclilcnaaGreatDoor
