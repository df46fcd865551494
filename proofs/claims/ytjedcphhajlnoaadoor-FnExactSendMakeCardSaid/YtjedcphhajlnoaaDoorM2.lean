import Derived.Test.YtjedcphhajlnoaaDoorProg
import Derived.Test.YtjedcphhajlnoaaDoorM0
set_option linter.unusedSimpArgs false
set_option linter.unusedVariables false
set_option linter.unusedSectionVars false
/- The types of the seat's program, as the evaluator takes them. -/
namespace Go.Proofs.YtjedcphhajlnoaaDoor
def ti : TypeId → TI
  | 3 => ⟨(.int .i64), false, 1, 8, [.int .i64 0], some .int⟩
  | 4 => ⟨.bool, false, 1, 1, [.bool false], none⟩
  | 5 => ⟨(.int .u8), false, 1, 1, [.int .u8 0], some .byte⟩
  | 9 => ⟨.str, false, 1, 16, [.string ⟨#[]⟩], some .str⟩
  | 22 => ⟨(.sl 5), false, 1, 24, [.slice none 0 0], none⟩
  | 23 => ⟨(.sl 34), false, 1, 24, [.slice none 0 0], none⟩
  | 25 => ⟨(.st [(0, 23)]), true, 1, 24, [.slice none 0 0], none⟩
  | 28 => ⟨(.sl 9), false, 1, 24, [.slice none 0 0], none⟩
  | 32 => ⟨(.arr 8 9), true, 8, 128, [.string ⟨#[]⟩, .string ⟨#[]⟩, .string ⟨#[]⟩, .string ⟨#[]⟩, .string ⟨#[]⟩, .string ⟨#[]⟩, .string ⟨#[]⟩, .string ⟨#[]⟩], none⟩
  | 34 => ⟨(.st [(0, 9), (1, 3), (2, 9), (3, 32)]), true, 11, 168, [.string ⟨#[]⟩, .int .i64 0, .string ⟨#[]⟩, .string ⟨#[]⟩, .string ⟨#[]⟩, .string ⟨#[]⟩, .string ⟨#[]⟩, .string ⟨#[]⟩, .string ⟨#[]⟩, .string ⟨#[]⟩, .string ⟨#[]⟩], some .bset⟩
  | 36 => ⟨(.sl 73), false, 1, 24, [.slice none 0 0], none⟩
  | 38 => ⟨(.st [(0, 36)]), true, 1, 24, [.slice none 0 0], none⟩
  | 49 => ⟨.other, false, 1, 8, [.nilFunc], none⟩
  | 54 => ⟨(.sl 3), false, 1, 24, [.slice none 0 0], none⟩
  | 61 => ⟨(.ptr 80), false, 1, 8, [.pointer none], none⟩
  | 68 => ⟨.other, false, 1, 8, [.nilFunc], none⟩
  | 71 => ⟨.other, false, 1, 8, [.nilFunc], none⟩
  | 73 => ⟨(.st [(0, 9), (1, 3), (2, 9), (3, 32)]), true, 11, 168, [.string ⟨#[]⟩, .int .i64 0, .string ⟨#[]⟩, .string ⟨#[]⟩, .string ⟨#[]⟩, .string ⟨#[]⟩, .string ⟨#[]⟩, .string ⟨#[]⟩, .string ⟨#[]⟩, .string ⟨#[]⟩, .string ⟨#[]⟩], some .bset⟩
  | 77 => ⟨(.int .u64), false, 1, 8, [.int .u64 0], none⟩
  | 80 => ⟨(.st [(0, 22), (1, 3)]), true, 2, 32, [.slice none 0 0, .int .i64 0], none⟩
  | 96 => ⟨(.st [(0, 3), (1, 9), (2, 9), (3, 3), (4, 9)]), true, 5, 64, [.int .i64 0, .string ⟨#[]⟩, .string ⟨#[]⟩, .int .i64 0, .string ⟨#[]⟩], some .bop⟩
  | 104 => ⟨(.ptr 100), false, 1, 8, [.pointer none], none⟩
  | _ => ⟨.other, false, 0, 0, [], none⟩
theorem ti_3 : ti 3 = ⟨(.int .i64), false, 1, 8, [.int .i64 0], some .int⟩ := rfl
theorem ti_4 : ti 4 = ⟨.bool, false, 1, 1, [.bool false], none⟩ := rfl
theorem ti_5 : ti 5 = ⟨(.int .u8), false, 1, 1, [.int .u8 0], some .byte⟩ := rfl
theorem ti_9 : ti 9 = ⟨.str, false, 1, 16, [.string ⟨#[]⟩], some .str⟩ := rfl
theorem ti_22 : ti 22 = ⟨(.sl 5), false, 1, 24, [.slice none 0 0], none⟩ := rfl
theorem ti_23 : ti 23 = ⟨(.sl 34), false, 1, 24, [.slice none 0 0], none⟩ := rfl
theorem ti_25 : ti 25 = ⟨(.st [(0, 23)]), true, 1, 24, [.slice none 0 0], none⟩ := rfl
theorem ti_28 : ti 28 = ⟨(.sl 9), false, 1, 24, [.slice none 0 0], none⟩ := rfl
theorem ti_32 : ti 32 = ⟨(.arr 8 9), true, 8, 128, [.string ⟨#[]⟩, .string ⟨#[]⟩, .string ⟨#[]⟩, .string ⟨#[]⟩, .string ⟨#[]⟩, .string ⟨#[]⟩, .string ⟨#[]⟩, .string ⟨#[]⟩], none⟩ := rfl
theorem ti_34 : ti 34 = ⟨(.st [(0, 9), (1, 3), (2, 9), (3, 32)]), true, 11, 168, [.string ⟨#[]⟩, .int .i64 0, .string ⟨#[]⟩, .string ⟨#[]⟩, .string ⟨#[]⟩, .string ⟨#[]⟩, .string ⟨#[]⟩, .string ⟨#[]⟩, .string ⟨#[]⟩, .string ⟨#[]⟩, .string ⟨#[]⟩], some .bset⟩ := rfl
theorem ti_36 : ti 36 = ⟨(.sl 73), false, 1, 24, [.slice none 0 0], none⟩ := rfl
theorem ti_38 : ti 38 = ⟨(.st [(0, 36)]), true, 1, 24, [.slice none 0 0], none⟩ := rfl
theorem ti_49 : ti 49 = ⟨.other, false, 1, 8, [.nilFunc], none⟩ := rfl
theorem ti_54 : ti 54 = ⟨(.sl 3), false, 1, 24, [.slice none 0 0], none⟩ := rfl
theorem ti_61 : ti 61 = ⟨(.ptr 80), false, 1, 8, [.pointer none], none⟩ := rfl
theorem ti_68 : ti 68 = ⟨.other, false, 1, 8, [.nilFunc], none⟩ := rfl
theorem ti_71 : ti 71 = ⟨.other, false, 1, 8, [.nilFunc], none⟩ := rfl
theorem ti_73 : ti 73 = ⟨(.st [(0, 9), (1, 3), (2, 9), (3, 32)]), true, 11, 168, [.string ⟨#[]⟩, .int .i64 0, .string ⟨#[]⟩, .string ⟨#[]⟩, .string ⟨#[]⟩, .string ⟨#[]⟩, .string ⟨#[]⟩, .string ⟨#[]⟩, .string ⟨#[]⟩, .string ⟨#[]⟩, .string ⟨#[]⟩], some .bset⟩ := rfl
theorem ti_77 : ti 77 = ⟨(.int .u64), false, 1, 8, [.int .u64 0], none⟩ := rfl
theorem ti_80 : ti 80 = ⟨(.st [(0, 22), (1, 3)]), true, 2, 32, [.slice none 0 0, .int .i64 0], none⟩ := rfl
theorem ti_96 : ti 96 = ⟨(.st [(0, 3), (1, 9), (2, 9), (3, 3), (4, 9)]), true, 5, 64, [.int .i64 0, .string ⟨#[]⟩, .string ⟨#[]⟩, .int .i64 0, .string ⟨#[]⟩], some .bop⟩ := rfl
theorem ti_104 : ti 104 = ⟨(.ptr 100), false, 1, 8, [.pointer none], none⟩ := rfl
end Go.Proofs.YtjedcphhajlnoaaDoor
