/- The table of the types of this program, and that it is right; no condition. -/
import Derived.Test.YtbhlncohfpempaaEng16
import Derived.Test.YtbhlncohfpempaaProg
namespace Go.Proofs.Ytbhlncohfpempaa
open Go Go.Eng
def y2 : TI := ⟨.int .i64, 1, 8, [.int .i64 0], []⟩
@[simp] theorem y2_s : y2.size = 1 := rfl
@[simp] theorem y2_b : y2.bytes = 8 := rfl
def y3 : TI := ⟨.int .i64, 1, 8, [.int .i64 0], []⟩
@[simp] theorem y3_s : y3.size = 1 := rfl
@[simp] theorem y3_b : y3.bytes = 8 := rfl
def y4 : TI := ⟨.bool, 1, 1, [.bool false], []⟩
@[simp] theorem y4_s : y4.size = 1 := rfl
@[simp] theorem y4_b : y4.bytes = 1 := rfl
def y5 : TI := ⟨.int .u8, 1, 1, [.int .u8 0], []⟩
@[simp] theorem y5_s : y5.size = 1 := rfl
@[simp] theorem y5_b : y5.bytes = 1 := rfl
def y6 : TI := ⟨.int .u8, 1, 1, [.int .u8 0], []⟩
@[simp] theorem y6_s : y6.size = 1 := rfl
@[simp] theorem y6_b : y6.bytes = 1 := rfl
def y7 : TI := ⟨.struct #[⟨ "x", 2, 0, false, "", "runtime", 0⟩, ⟨ "y", 3, 1, false, "", "runtime", 8⟩, ⟨ "signed", 4, 2, false, "", "runtime", 16⟩, ⟨ "code", 6, 3, false, "", "runtime", 17⟩], 4, 24, [.int .i64 0, .int .i64 0, .bool false, .int .u8 0], []⟩
@[simp] theorem y7_s : y7.size = 4 := rfl
@[simp] theorem y7_b : y7.bytes = 24 := rfl
def y8 : TI := ⟨.struct #[⟨ "x", 2, 0, false, "", "runtime", 0⟩, ⟨ "y", 3, 1, false, "", "runtime", 8⟩, ⟨ "signed", 4, 2, false, "", "runtime", 16⟩, ⟨ "code", 6, 3, false, "", "runtime", 17⟩], 4, 24, [.int .i64 0, .int .i64 0, .bool false, .int .u8 0], []⟩
@[simp] theorem y8_s : y8.size = 4 := rfl
@[simp] theorem y8_b : y8.bytes = 24 := rfl
def y9 : TI := ⟨.string, 1, 16, [.string .empty], []⟩
@[simp] theorem y9_s : y9.size = 1 := rfl
@[simp] theorem y9_b : y9.bytes = 16 := rfl
def y10 : TI := ⟨.string, 1, 16, [.string .empty], []⟩
@[simp] theorem y10_s : y10.size = 1 := rfl
@[simp] theorem y10_b : y10.bytes = 16 := rfl
def y11 : TI := ⟨.string, 1, 16, [.string .empty], []⟩
@[simp] theorem y11_s : y11.size = 1 := rfl
@[simp] theorem y11_b : y11.bytes = 16 := rfl
def y12 : TI := ⟨.int .u64, 1, 8, [.int .u64 0], []⟩
@[simp] theorem y12_s : y12.size = 1 := rfl
@[simp] theorem y12_b : y12.bytes = 8 := rfl
def y13 : TI := ⟨.struct #[⟨ "msg", 9, 0, false, "", "runtime", 0⟩, ⟨ "addr", 12, 1, false, "", "runtime", 16⟩], 2, 24, [.string .empty, .int .u64 0], []⟩
@[simp] theorem y13_s : y13.size = 2 := rfl
@[simp] theorem y13_b : y13.bytes = 24 := rfl
def y14 : TI := ⟨.struct #[⟨ "msg", 9, 0, false, "", "runtime", 0⟩, ⟨ "addr", 12, 1, false, "", "runtime", 16⟩], 2, 24, [.string .empty, .int .u64 0], []⟩
@[simp] theorem y14_s : y14.size = 2 := rfl
@[simp] theorem y14_b : y14.bytes = 24 := rfl
def y15 : TI := ⟨.pointer 99, 1, 8, [.pointer none], []⟩
@[simp] theorem y15_s : y15.size = 1 := rfl
@[simp] theorem y15_b : y15.bytes = 8 := rfl
def y16 : TI := ⟨.pointer 102, 1, 8, [.pointer none], []⟩
@[simp] theorem y16_s : y16.size = 1 := rfl
@[simp] theorem y16_b : y16.bytes = 8 := rfl
def y17 : TI := ⟨.pointer 110, 1, 8, [.pointer none], []⟩
@[simp] theorem y17_s : y17.size = 1 := rfl
@[simp] theorem y17_b : y17.bytes = 8 := rfl
def y18 : TI := ⟨.struct #[⟨ "typ", 17, 0, false, "", "internal/runtime/maps", 0⟩], 1, 8, [.pointer none], []⟩
@[simp] theorem y18_s : y18.size = 1 := rfl
@[simp] theorem y18_b : y18.bytes = 8 := rfl
def y19 : TI := ⟨.struct #[⟨ "typ", 17, 0, false, "", "internal/runtime/maps", 0⟩], 1, 8, [.pointer none], []⟩
@[simp] theorem y19_s : y19.size = 1 := rfl
@[simp] theorem y19_b : y19.bytes = 8 := rfl
def y21 : TI := ⟨.int .i32, 1, 4, [.int .i32 0], []⟩
@[simp] theorem y21_s : y21.size = 1 := rfl
@[simp] theorem y21_b : y21.bytes = 4 := rfl
def y22 : TI := ⟨.struct #[⟨ "Command", 9, 0, false, "", "", 0⟩, ⟨ "Reply", 9, 1, false, "", "", 16⟩], 2, 32, [.string .empty, .string .empty], [.string, .string]⟩
@[simp] theorem y22_s : y22.size = 2 := rfl
@[simp] theorem y22_b : y22.bytes = 32 := rfl
def y23 : TI := ⟨.struct #[⟨ "Command", 9, 0, false, "", "", 0⟩, ⟨ "Reply", 9, 1, false, "", "", 16⟩], 2, 32, [.string .empty, .string .empty], [.string, .string]⟩
@[simp] theorem y23_s : y23.size = 2 := rfl
@[simp] theorem y23_b : y23.bytes = 32 := rfl
def y26 : TI := ⟨.struct #[⟨ "Command", 9, 0, false, "", "", 0⟩, ⟨ "Reply", 9, 1, false, "", "", 16⟩], 2, 32, [.string .empty, .string .empty], [.string, .string]⟩
@[simp] theorem y26_s : y26.size = 2 := rfl
@[simp] theorem y26_b : y26.bytes = 32 := rfl
def y29 : TI := ⟨.array 4 3, 4, 32, [.int .i64 0, .int .i64 0, .int .i64 0, .int .i64 0], [.int .i64, .int .i64, .int .i64, .int .i64]⟩
@[simp] theorem y29_s : y29.size = 4 := rfl
@[simp] theorem y29_b : y29.bytes = 32 := rfl
def y30 : TI := ⟨.struct #[⟨ "Glasses", 29, 0, false, "", "", 0⟩], 4, 32, [.int .i64 0, .int .i64 0, .int .i64 0, .int .i64 0], [.int .i64, .int .i64, .int .i64, .int .i64]⟩
@[simp] theorem y30_s : y30.size = 4 := rfl
@[simp] theorem y30_b : y30.bytes = 32 := rfl
def y31 : TI := ⟨.struct #[⟨ "Glasses", 29, 0, false, "", "", 0⟩], 4, 32, [.int .i64 0, .int .i64 0, .int .i64 0, .int .i64 0], [.int .i64, .int .i64, .int .i64, .int .i64]⟩
@[simp] theorem y31_s : y31.size = 4 := rfl
@[simp] theorem y31_b : y31.bytes = 32 := rfl
def y34 : TI := ⟨.struct #[⟨ "Glasses", 29, 0, false, "", "", 0⟩], 4, 32, [.int .i64 0, .int .i64 0, .int .i64 0, .int .i64 0], [.int .i64, .int .i64, .int .i64, .int .i64]⟩
@[simp] theorem y34_s : y34.size = 4 := rfl
@[simp] theorem y34_b : y34.bytes = 32 := rfl
def y42 : TI := ⟨.slice 4, 1, 24, [.slice none 0 0], []⟩
@[simp] theorem y42_s : y42.size = 1 := rfl
@[simp] theorem y42_b : y42.bytes = 24 := rfl
def y43 : TI := ⟨.slice 42, 1, 24, [.slice none 0 0], []⟩
@[simp] theorem y43_s : y43.size = 1 := rfl
@[simp] theorem y43_b : y43.bytes = 24 := rfl
def y54 : TI := ⟨.slice 55, 1, 24, [.slice none 0 0], []⟩
@[simp] theorem y54_s : y54.size = 1 := rfl
@[simp] theorem y54_b : y54.bytes = 24 := rfl
def y55 : TI := ⟨.slice 58, 1, 24, [.slice none 0 0], []⟩
@[simp] theorem y55_s : y55.size = 1 := rfl
@[simp] theorem y55_b : y55.bytes = 24 := rfl
def y58 : TI := ⟨.array 2 3, 2, 16, [.int .i64 0, .int .i64 0], [.int .i64, .int .i64]⟩
@[simp] theorem y58_s : y58.size = 2 := rfl
@[simp] theorem y58_b : y58.bytes = 16 := rfl
def y61 : TI := ⟨.int .u64, 1, 8, [.int .u64 0], []⟩
@[simp] theorem y61_s : y61.size = 1 := rfl
@[simp] theorem y61_b : y61.bytes = 8 := rfl
def y62 : TI := ⟨.map 29 61, 1, 8, [.map none], []⟩
@[simp] theorem y62_s : y62.size = 1 := rfl
@[simp] theorem y62_b : y62.bytes = 8 := rfl
def y63 : TI := ⟨.pointer 75, 1, 8, [.pointer none], []⟩
@[simp] theorem y63_s : y63.size = 1 := rfl
@[simp] theorem y63_b : y63.bytes = 8 := rfl
def y66 : TI := ⟨.slice 29, 1, 24, [.slice none 0 0], []⟩
@[simp] theorem y66_s : y66.size = 1 := rfl
@[simp] theorem y66_b : y66.bytes = 24 := rfl
def y73 : TI := ⟨.map 29 77, 1, 8, [.map none], []⟩
@[simp] theorem y73_s : y73.size = 1 := rfl
@[simp] theorem y73_b : y73.bytes = 8 := rfl
def y74 : TI := ⟨.struct #[⟨ "k", 34, 0, false, "", "loop.example/g01187/impl", 0⟩, ⟨ "edges", 73, 4, false, "", "loop.example/g01187/impl", 32⟩], 5, 40, [.int .i64 0, .int .i64 0, .int .i64 0, .int .i64 0, .map none], []⟩
@[simp] theorem y74_s : y74.size = 5 := rfl
@[simp] theorem y74_b : y74.bytes = 40 := rfl
def y75 : TI := ⟨.struct #[⟨ "k", 34, 0, false, "", "loop.example/g01187/impl", 0⟩, ⟨ "edges", 73, 4, false, "", "loop.example/g01187/impl", 32⟩], 5, 40, [.int .i64 0, .int .i64 0, .int .i64 0, .int .i64 0, .map none], []⟩
@[simp] theorem y75_s : y75.size = 5 := rfl
@[simp] theorem y75_b : y75.bytes = 40 := rfl
def y77 : TI := ⟨.slice 80, 1, 24, [.slice none 0 0], []⟩
@[simp] theorem y77_s : y77.size = 1 := rfl
@[simp] theorem y77_b : y77.bytes = 24 := rfl
def y79 : TI := ⟨.struct #[⟨ "to", 29, 0, false, "", "loop.example/g01187/impl", 0⟩, ⟨ "minutes", 3, 4, false, "", "loop.example/g01187/impl", 32⟩], 5, 40, [.int .i64 0, .int .i64 0, .int .i64 0, .int .i64 0, .int .i64 0], [.int .i64, .int .i64, .int .i64, .int .i64, .int .i64]⟩
@[simp] theorem y79_s : y79.size = 5 := rfl
@[simp] theorem y79_b : y79.bytes = 40 := rfl
def y80 : TI := ⟨.struct #[⟨ "to", 29, 0, false, "", "loop.example/g01187/impl", 0⟩, ⟨ "minutes", 3, 4, false, "", "loop.example/g01187/impl", 32⟩], 5, 40, [.int .i64 0, .int .i64 0, .int .i64 0, .int .i64 0, .int .i64 0], [.int .i64, .int .i64, .int .i64, .int .i64, .int .i64]⟩
@[simp] theorem y80_s : y80.size = 5 := rfl
@[simp] theorem y80_b : y80.bytes = 40 := rfl
def y83 : TI := ⟨.int .u64, 1, 8, [.int .u64 0], []⟩
@[simp] theorem y83_s : y83.size = 1 := rfl
@[simp] theorem y83_b : y83.bytes = 8 := rfl
def y89 : TI := ⟨.slice 3, 1, 24, [.slice none 0 0], []⟩
@[simp] theorem y89_s : y89.size = 1 := rfl
@[simp] theorem y89_b : y89.bytes = 24 := rfl
def y93 : TI := ⟨.int .u32, 1, 4, [.int .u32 0], []⟩
@[simp] theorem y93_s : y93.size = 1 := rfl
@[simp] theorem y93_b : y93.bytes = 4 := rfl
def y98 : TI := ⟨.struct #[⟨ "_interface", 17, 0, false, "", "runtime", 0⟩, ⟨ "concrete", 17, 1, false, "", "runtime", 8⟩, ⟨ "asserted", 17, 2, false, "", "runtime", 16⟩, ⟨ "missingMethod", 9, 3, false, "", "runtime", 24⟩], 4, 40, [.pointer none, .pointer none, .pointer none, .string .empty], []⟩
@[simp] theorem y98_s : y98.size = 4 := rfl
@[simp] theorem y98_b : y98.bytes = 40 := rfl
def y99 : TI := ⟨.struct #[⟨ "_interface", 17, 0, false, "", "runtime", 0⟩, ⟨ "concrete", 17, 1, false, "", "runtime", 8⟩, ⟨ "asserted", 17, 2, false, "", "runtime", 16⟩, ⟨ "missingMethod", 9, 3, false, "", "runtime", 24⟩], 4, 40, [.pointer none, .pointer none, .pointer none, .string .empty], []⟩
@[simp] theorem y99_s : y99.size = 4 := rfl
@[simp] theorem y99_b : y99.bytes = 40 := rfl
def y103 : TI := ⟨.int .u8, 1, 1, [.int .u8 0], []⟩
@[simp] theorem y103_s : y103.size = 1 := rfl
@[simp] theorem y103_b : y103.bytes = 1 := rfl
def y104 : TI := ⟨.int .u8, 1, 1, [.int .u8 0], []⟩
@[simp] theorem y104_s : y104.size = 1 := rfl
@[simp] theorem y104_b : y104.bytes = 1 := rfl
def y106 : TI := ⟨.pointer 5, 1, 8, [.pointer none], []⟩
@[simp] theorem y106_s : y106.size = 1 := rfl
@[simp] theorem y106_b : y106.bytes = 8 := rfl
def y107 : TI := ⟨.int .i32, 1, 4, [.int .i32 0], []⟩
@[simp] theorem y107_s : y107.size = 1 := rfl
@[simp] theorem y107_b : y107.bytes = 4 := rfl
def y108 : TI := ⟨.int .i32, 1, 4, [.int .i32 0], []⟩
@[simp] theorem y108_s : y108.size = 1 := rfl
@[simp] theorem y108_b : y108.bytes = 4 := rfl
def y109 : TI := ⟨.struct #[⟨ "Size_", 12, 0, false, "", "", 0⟩, ⟨ "PtrBytes", 12, 1, false, "", "", 8⟩, ⟨ "Hash", 93, 2, false, "", "", 16⟩, ⟨ "TFlag", 103, 3, false, "", "", 20⟩, ⟨ "Align_", 5, 4, false, "", "", 21⟩, ⟨ "FieldAlign_", 5, 5, false, "", "", 22⟩, ⟨ "Kind_", 104, 6, false, "", "", 23⟩, ⟨ "Equal", 105, 7, false, "", "", 24⟩, ⟨ "GCData", 106, 8, false, "", "", 32⟩, ⟨ "Str", 107, 9, false, "", "", 40⟩, ⟨ "PtrToThis", 108, 10, false, "", "", 44⟩], 11, 48, [.int .u64 0, .int .u64 0, .int .u32 0, .int .u8 0, .int .u8 0, .int .u8 0, .int .u8 0, .nilFunc, .pointer none, .int .i32 0, .int .i32 0], []⟩
@[simp] theorem y109_s : y109.size = 11 := rfl
@[simp] theorem y109_b : y109.bytes = 48 := rfl
def y110 : TI := ⟨.struct #[⟨ "Size_", 12, 0, false, "", "", 0⟩, ⟨ "PtrBytes", 12, 1, false, "", "", 8⟩, ⟨ "Hash", 93, 2, false, "", "", 16⟩, ⟨ "TFlag", 103, 3, false, "", "", 20⟩, ⟨ "Align_", 5, 4, false, "", "", 21⟩, ⟨ "FieldAlign_", 5, 5, false, "", "", 22⟩, ⟨ "Kind_", 104, 6, false, "", "", 23⟩, ⟨ "Equal", 105, 7, false, "", "", 24⟩, ⟨ "GCData", 106, 8, false, "", "", 32⟩, ⟨ "Str", 107, 9, false, "", "", 40⟩, ⟨ "PtrToThis", 108, 10, false, "", "", 44⟩], 11, 48, [.int .u64 0, .int .u64 0, .int .u32 0, .int .u8 0, .int .u8 0, .int .u8 0, .int .u8 0, .nilFunc, .pointer none, .int .i32 0, .int .i32 0], []⟩
@[simp] theorem y110_s : y110.size = 11 := rfl
@[simp] theorem y110_b : y110.bytes = 48 := rfl
def T : TT := fun t => match t with
  | 2 => some y2
  | 3 => some y3
  | 4 => some y4
  | 5 => some y5
  | 6 => some y6
  | 7 => some y7
  | 8 => some y8
  | 9 => some y9
  | 10 => some y10
  | 11 => some y11
  | 12 => some y12
  | 13 => some y13
  | 14 => some y14
  | 15 => some y15
  | 16 => some y16
  | 17 => some y17
  | 18 => some y18
  | 19 => some y19
  | 21 => some y21
  | 22 => some y22
  | 23 => some y23
  | 26 => some y26
  | 29 => some y29
  | 30 => some y30
  | 31 => some y31
  | 34 => some y34
  | 42 => some y42
  | 43 => some y43
  | 54 => some y54
  | 55 => some y55
  | 58 => some y58
  | 61 => some y61
  | 62 => some y62
  | 63 => some y63
  | 66 => some y66
  | 73 => some y73
  | 74 => some y74
  | 75 => some y75
  | 77 => some y77
  | 79 => some y79
  | 80 => some y80
  | 83 => some y83
  | 89 => some y89
  | 93 => some y93
  | 98 => some y98
  | 99 => some y99
  | 103 => some y103
  | 104 => some y104
  | 106 => some y106
  | 107 => some y107
  | 108 => some y108
  | 109 => some y109
  | 110 => some y110
  | _ => none

theorem ti2 : (Try.prog.info? 2).map (fun i => (i.size, i.bytes, i.zero.map (·.cells))) = some (1, 8, some ⟨[.int .i64 0]⟩) := by kernel_rfl
theorem ti3 : (Try.prog.info? 3).map (fun i => (i.size, i.bytes, i.zero.map (·.cells))) = some (1, 8, some ⟨[.int .i64 0]⟩) := by kernel_rfl
theorem ti4 : (Try.prog.info? 4).map (fun i => (i.size, i.bytes, i.zero.map (·.cells))) = some (1, 1, some ⟨[.bool false]⟩) := by kernel_rfl
theorem ti5 : (Try.prog.info? 5).map (fun i => (i.size, i.bytes, i.zero.map (·.cells))) = some (1, 1, some ⟨[.int .u8 0]⟩) := by kernel_rfl
theorem ti6 : (Try.prog.info? 6).map (fun i => (i.size, i.bytes, i.zero.map (·.cells))) = some (1, 1, some ⟨[.int .u8 0]⟩) := by kernel_rfl
theorem ti7 : (Try.prog.info? 7).map (fun i => (i.size, i.bytes, i.zero.map (·.cells))) = some (4, 24, some ⟨[.int .i64 0, .int .i64 0, .bool false, .int .u8 0]⟩) := by kernel_rfl
theorem ti8 : (Try.prog.info? 8).map (fun i => (i.size, i.bytes, i.zero.map (·.cells))) = some (4, 24, some ⟨[.int .i64 0, .int .i64 0, .bool false, .int .u8 0]⟩) := by kernel_rfl
theorem ti9 : (Try.prog.info? 9).map (fun i => (i.size, i.bytes, i.zero.map (·.cells))) = some (1, 16, some ⟨[.string .empty]⟩) := by kernel_rfl
theorem ti10 : (Try.prog.info? 10).map (fun i => (i.size, i.bytes, i.zero.map (·.cells))) = some (1, 16, some ⟨[.string .empty]⟩) := by kernel_rfl
theorem ti11 : (Try.prog.info? 11).map (fun i => (i.size, i.bytes, i.zero.map (·.cells))) = some (1, 16, some ⟨[.string .empty]⟩) := by kernel_rfl
theorem ti12 : (Try.prog.info? 12).map (fun i => (i.size, i.bytes, i.zero.map (·.cells))) = some (1, 8, some ⟨[.int .u64 0]⟩) := by kernel_rfl
theorem ti13 : (Try.prog.info? 13).map (fun i => (i.size, i.bytes, i.zero.map (·.cells))) = some (2, 24, some ⟨[.string .empty, .int .u64 0]⟩) := by kernel_rfl
theorem ti14 : (Try.prog.info? 14).map (fun i => (i.size, i.bytes, i.zero.map (·.cells))) = some (2, 24, some ⟨[.string .empty, .int .u64 0]⟩) := by kernel_rfl
theorem ti15 : (Try.prog.info? 15).map (fun i => (i.size, i.bytes, i.zero.map (·.cells))) = some (1, 8, some ⟨[.pointer none]⟩) := by kernel_rfl
theorem ti16 : (Try.prog.info? 16).map (fun i => (i.size, i.bytes, i.zero.map (·.cells))) = some (1, 8, some ⟨[.pointer none]⟩) := by kernel_rfl
theorem ti17 : (Try.prog.info? 17).map (fun i => (i.size, i.bytes, i.zero.map (·.cells))) = some (1, 8, some ⟨[.pointer none]⟩) := by kernel_rfl
theorem ti18 : (Try.prog.info? 18).map (fun i => (i.size, i.bytes, i.zero.map (·.cells))) = some (1, 8, some ⟨[.pointer none]⟩) := by kernel_rfl
theorem ti19 : (Try.prog.info? 19).map (fun i => (i.size, i.bytes, i.zero.map (·.cells))) = some (1, 8, some ⟨[.pointer none]⟩) := by kernel_rfl
theorem ti21 : (Try.prog.info? 21).map (fun i => (i.size, i.bytes, i.zero.map (·.cells))) = some (1, 4, some ⟨[.int .i32 0]⟩) := by kernel_rfl
theorem ti22 : (Try.prog.info? 22).map (fun i => (i.size, i.bytes, i.zero.map (·.cells))) = some (2, 32, some ⟨[.string .empty, .string .empty]⟩) := by kernel_rfl
theorem ti23 : (Try.prog.info? 23).map (fun i => (i.size, i.bytes, i.zero.map (·.cells))) = some (2, 32, some ⟨[.string .empty, .string .empty]⟩) := by kernel_rfl
theorem ti26 : (Try.prog.info? 26).map (fun i => (i.size, i.bytes, i.zero.map (·.cells))) = some (2, 32, some ⟨[.string .empty, .string .empty]⟩) := by kernel_rfl
theorem ti29 : (Try.prog.info? 29).map (fun i => (i.size, i.bytes, i.zero.map (·.cells))) = some (4, 32, some ⟨[.int .i64 0, .int .i64 0, .int .i64 0, .int .i64 0]⟩) := by kernel_rfl
theorem ti30 : (Try.prog.info? 30).map (fun i => (i.size, i.bytes, i.zero.map (·.cells))) = some (4, 32, some ⟨[.int .i64 0, .int .i64 0, .int .i64 0, .int .i64 0]⟩) := by kernel_rfl
theorem ti31 : (Try.prog.info? 31).map (fun i => (i.size, i.bytes, i.zero.map (·.cells))) = some (4, 32, some ⟨[.int .i64 0, .int .i64 0, .int .i64 0, .int .i64 0]⟩) := by kernel_rfl
theorem ti34 : (Try.prog.info? 34).map (fun i => (i.size, i.bytes, i.zero.map (·.cells))) = some (4, 32, some ⟨[.int .i64 0, .int .i64 0, .int .i64 0, .int .i64 0]⟩) := by kernel_rfl
theorem ti42 : (Try.prog.info? 42).map (fun i => (i.size, i.bytes, i.zero.map (·.cells))) = some (1, 24, some ⟨[.slice none 0 0]⟩) := by kernel_rfl
theorem ti43 : (Try.prog.info? 43).map (fun i => (i.size, i.bytes, i.zero.map (·.cells))) = some (1, 24, some ⟨[.slice none 0 0]⟩) := by kernel_rfl
theorem ti54 : (Try.prog.info? 54).map (fun i => (i.size, i.bytes, i.zero.map (·.cells))) = some (1, 24, some ⟨[.slice none 0 0]⟩) := by kernel_rfl
theorem ti55 : (Try.prog.info? 55).map (fun i => (i.size, i.bytes, i.zero.map (·.cells))) = some (1, 24, some ⟨[.slice none 0 0]⟩) := by kernel_rfl
theorem ti58 : (Try.prog.info? 58).map (fun i => (i.size, i.bytes, i.zero.map (·.cells))) = some (2, 16, some ⟨[.int .i64 0, .int .i64 0]⟩) := by kernel_rfl
theorem ti61 : (Try.prog.info? 61).map (fun i => (i.size, i.bytes, i.zero.map (·.cells))) = some (1, 8, some ⟨[.int .u64 0]⟩) := by kernel_rfl
theorem ti62 : (Try.prog.info? 62).map (fun i => (i.size, i.bytes, i.zero.map (·.cells))) = some (1, 8, some ⟨[.map none]⟩) := by kernel_rfl
theorem ti63 : (Try.prog.info? 63).map (fun i => (i.size, i.bytes, i.zero.map (·.cells))) = some (1, 8, some ⟨[.pointer none]⟩) := by kernel_rfl
theorem ti66 : (Try.prog.info? 66).map (fun i => (i.size, i.bytes, i.zero.map (·.cells))) = some (1, 24, some ⟨[.slice none 0 0]⟩) := by kernel_rfl
theorem ti73 : (Try.prog.info? 73).map (fun i => (i.size, i.bytes, i.zero.map (·.cells))) = some (1, 8, some ⟨[.map none]⟩) := by kernel_rfl
theorem ti74 : (Try.prog.info? 74).map (fun i => (i.size, i.bytes, i.zero.map (·.cells))) = some (5, 40, some ⟨[.int .i64 0, .int .i64 0, .int .i64 0, .int .i64 0, .map none]⟩) := by kernel_rfl
theorem ti75 : (Try.prog.info? 75).map (fun i => (i.size, i.bytes, i.zero.map (·.cells))) = some (5, 40, some ⟨[.int .i64 0, .int .i64 0, .int .i64 0, .int .i64 0, .map none]⟩) := by kernel_rfl
theorem ti77 : (Try.prog.info? 77).map (fun i => (i.size, i.bytes, i.zero.map (·.cells))) = some (1, 24, some ⟨[.slice none 0 0]⟩) := by kernel_rfl
theorem ti79 : (Try.prog.info? 79).map (fun i => (i.size, i.bytes, i.zero.map (·.cells))) = some (5, 40, some ⟨[.int .i64 0, .int .i64 0, .int .i64 0, .int .i64 0, .int .i64 0]⟩) := by kernel_rfl
theorem ti80 : (Try.prog.info? 80).map (fun i => (i.size, i.bytes, i.zero.map (·.cells))) = some (5, 40, some ⟨[.int .i64 0, .int .i64 0, .int .i64 0, .int .i64 0, .int .i64 0]⟩) := by kernel_rfl
theorem ti83 : (Try.prog.info? 83).map (fun i => (i.size, i.bytes, i.zero.map (·.cells))) = some (1, 8, some ⟨[.int .u64 0]⟩) := by kernel_rfl
theorem ti89 : (Try.prog.info? 89).map (fun i => (i.size, i.bytes, i.zero.map (·.cells))) = some (1, 24, some ⟨[.slice none 0 0]⟩) := by kernel_rfl
theorem ti93 : (Try.prog.info? 93).map (fun i => (i.size, i.bytes, i.zero.map (·.cells))) = some (1, 4, some ⟨[.int .u32 0]⟩) := by kernel_rfl
theorem ti98 : (Try.prog.info? 98).map (fun i => (i.size, i.bytes, i.zero.map (·.cells))) = some (4, 40, some ⟨[.pointer none, .pointer none, .pointer none, .string .empty]⟩) := by kernel_rfl
theorem ti99 : (Try.prog.info? 99).map (fun i => (i.size, i.bytes, i.zero.map (·.cells))) = some (4, 40, some ⟨[.pointer none, .pointer none, .pointer none, .string .empty]⟩) := by kernel_rfl
theorem ti103 : (Try.prog.info? 103).map (fun i => (i.size, i.bytes, i.zero.map (·.cells))) = some (1, 1, some ⟨[.int .u8 0]⟩) := by kernel_rfl
theorem ti104 : (Try.prog.info? 104).map (fun i => (i.size, i.bytes, i.zero.map (·.cells))) = some (1, 1, some ⟨[.int .u8 0]⟩) := by kernel_rfl
theorem ti106 : (Try.prog.info? 106).map (fun i => (i.size, i.bytes, i.zero.map (·.cells))) = some (1, 8, some ⟨[.pointer none]⟩) := by kernel_rfl
theorem ti107 : (Try.prog.info? 107).map (fun i => (i.size, i.bytes, i.zero.map (·.cells))) = some (1, 4, some ⟨[.int .i32 0]⟩) := by kernel_rfl
theorem ti108 : (Try.prog.info? 108).map (fun i => (i.size, i.bytes, i.zero.map (·.cells))) = some (1, 4, some ⟨[.int .i32 0]⟩) := by kernel_rfl
theorem ti109 : (Try.prog.info? 109).map (fun i => (i.size, i.bytes, i.zero.map (·.cells))) = some (11, 48, some ⟨[.int .u64 0, .int .u64 0, .int .u32 0, .int .u8 0, .int .u8 0, .int .u8 0, .int .u8 0, .nilFunc, .pointer none, .int .i32 0, .int .i32 0]⟩) := by kernel_rfl
theorem ti110 : (Try.prog.info? 110).map (fun i => (i.size, i.bytes, i.zero.map (·.cells))) = some (11, 48, some ⟨[.int .u64 0, .int .u64 0, .int .u32 0, .int .u8 0, .int .u8 0, .int .u8 0, .int .u8 0, .nilFunc, .pointer none, .int .i32 0, .int .i32 0]⟩) := by kernel_rfl

theorem tok_of {t s b : Nat} {d : TypeDesc} {z : List Value} {c : List TypeDesc} (h1 : Try.prog.underlying t = some d) (h2 : (Try.prog.info? t).map (fun i => (i.size, i.bytes, i.zero.map (·.cells))) = some (s, b, some ⟨z⟩)) (h3 : z.length = s) (h4 : z.all flat0 = true) (h5 : c ≠ [] → CmpOk Try.prog t c) :
    Try.prog.underlying t = some d ∧ ∃ i, Try.prog.info? t = some i ∧ i.size = s ∧ i.bytes = b ∧ (∃ v, i.zero = some v ∧ v.cells = ⟨z⟩) ∧ z.length = s ∧ z.all flat0 = true ∧ (c ≠ [] → CmpOk Try.prog t c) := by
  refine ⟨h1, ?_⟩
  cases e : Try.prog.info? t with
  | none => rw [e] at h2; cases h2
  | some i =>
    rw [e] at h2
    simp only [Option.map_some, Option.some.injEq, Prod.mk.injEq] at h2
    refine ⟨i, rfl, h2.1, h2.2.1, ?_, h3, h4, h5⟩
    cases e2 : i.zero with
    | none => rw [e2] at h2; cases h2.2.2
    | some v => rw [e2] at h2; exact ⟨v, rfl, Option.some.inj h2.2.2⟩

theorem cm22 : CmpOk Try.prog 22 [.string, .string] := cmp_ok (f := 20) (by kernel_rfl) (by kernel_rfl) (by omega) (by kernel_rfl) (by kernel_rfl)
theorem cm23 : CmpOk Try.prog 23 [.string, .string] := cmp_ok (f := 20) (by kernel_rfl) (by kernel_rfl) (by omega) (by kernel_rfl) (by kernel_rfl)
theorem cm26 : CmpOk Try.prog 26 [.string, .string] := cmp_ok (f := 20) (by kernel_rfl) (by kernel_rfl) (by omega) (by kernel_rfl) (by kernel_rfl)
theorem cm29 : CmpOk Try.prog 29 [.int .i64, .int .i64, .int .i64, .int .i64] := cmp_ok (f := 20) (by kernel_rfl) (by kernel_rfl) (by omega) (by kernel_rfl) (by kernel_rfl)
theorem cm30 : CmpOk Try.prog 30 [.int .i64, .int .i64, .int .i64, .int .i64] := cmp_ok (f := 20) (by kernel_rfl) (by kernel_rfl) (by omega) (by kernel_rfl) (by kernel_rfl)
theorem cm31 : CmpOk Try.prog 31 [.int .i64, .int .i64, .int .i64, .int .i64] := cmp_ok (f := 20) (by kernel_rfl) (by kernel_rfl) (by omega) (by kernel_rfl) (by kernel_rfl)
theorem cm34 : CmpOk Try.prog 34 [.int .i64, .int .i64, .int .i64, .int .i64] := cmp_ok (f := 20) (by kernel_rfl) (by kernel_rfl) (by omega) (by kernel_rfl) (by kernel_rfl)
theorem cm58 : CmpOk Try.prog 58 [.int .i64, .int .i64] := cmp_ok (f := 20) (by kernel_rfl) (by kernel_rfl) (by omega) (by kernel_rfl) (by kernel_rfl)
theorem cm79 : CmpOk Try.prog 79 [.int .i64, .int .i64, .int .i64, .int .i64, .int .i64] := cmp_ok (f := 20) (by kernel_rfl) (by kernel_rfl) (by omega) (by kernel_rfl) (by kernel_rfl)
theorem cm80 : CmpOk Try.prog 80 [.int .i64, .int .i64, .int .i64, .int .i64, .int .i64] := cmp_ok (f := 20) (by kernel_rfl) (by kernel_rfl) (by omega) (by kernel_rfl) (by kernel_rfl)
theorem T_ok : TOk Try.prog T := by
  intro t ti h
  unfold T at h
  split at h
  · obtain rfl := Option.some.inj h; exact tok_of Try.underlying2 ti2 rfl rfl (fun h => absurd rfl h)
  · obtain rfl := Option.some.inj h; exact tok_of Try.underlying3 ti3 rfl rfl (fun h => absurd rfl h)
  · obtain rfl := Option.some.inj h; exact tok_of Try.underlying4 ti4 rfl rfl (fun h => absurd rfl h)
  · obtain rfl := Option.some.inj h; exact tok_of Try.underlying5 ti5 rfl rfl (fun h => absurd rfl h)
  · obtain rfl := Option.some.inj h; exact tok_of Try.underlying6 ti6 rfl rfl (fun h => absurd rfl h)
  · obtain rfl := Option.some.inj h; exact tok_of Try.underlying7 ti7 rfl rfl (fun h => absurd rfl h)
  · obtain rfl := Option.some.inj h; exact tok_of Try.underlying8 ti8 rfl rfl (fun h => absurd rfl h)
  · obtain rfl := Option.some.inj h; exact tok_of Try.underlying9 ti9 rfl rfl (fun h => absurd rfl h)
  · obtain rfl := Option.some.inj h; exact tok_of Try.underlying10 ti10 rfl rfl (fun h => absurd rfl h)
  · obtain rfl := Option.some.inj h; exact tok_of Try.underlying11 ti11 rfl rfl (fun h => absurd rfl h)
  · obtain rfl := Option.some.inj h; exact tok_of Try.underlying12 ti12 rfl rfl (fun h => absurd rfl h)
  · obtain rfl := Option.some.inj h; exact tok_of Try.underlying13 ti13 rfl rfl (fun h => absurd rfl h)
  · obtain rfl := Option.some.inj h; exact tok_of Try.underlying14 ti14 rfl rfl (fun h => absurd rfl h)
  · obtain rfl := Option.some.inj h; exact tok_of Try.underlying15 ti15 rfl rfl (fun h => absurd rfl h)
  · obtain rfl := Option.some.inj h; exact tok_of Try.underlying16 ti16 rfl rfl (fun h => absurd rfl h)
  · obtain rfl := Option.some.inj h; exact tok_of Try.underlying17 ti17 rfl rfl (fun h => absurd rfl h)
  · obtain rfl := Option.some.inj h; exact tok_of Try.underlying18 ti18 rfl rfl (fun h => absurd rfl h)
  · obtain rfl := Option.some.inj h; exact tok_of Try.underlying19 ti19 rfl rfl (fun h => absurd rfl h)
  · obtain rfl := Option.some.inj h; exact tok_of Try.underlying21 ti21 rfl rfl (fun h => absurd rfl h)
  · obtain rfl := Option.some.inj h; exact tok_of Try.underlying22 ti22 rfl rfl (fun _ => cm22)
  · obtain rfl := Option.some.inj h; exact tok_of Try.underlying23 ti23 rfl rfl (fun _ => cm23)
  · obtain rfl := Option.some.inj h; exact tok_of Try.underlying26 ti26 rfl rfl (fun _ => cm26)
  · obtain rfl := Option.some.inj h; exact tok_of Try.underlying29 ti29 rfl rfl (fun _ => cm29)
  · obtain rfl := Option.some.inj h; exact tok_of Try.underlying30 ti30 rfl rfl (fun _ => cm30)
  · obtain rfl := Option.some.inj h; exact tok_of Try.underlying31 ti31 rfl rfl (fun _ => cm31)
  · obtain rfl := Option.some.inj h; exact tok_of Try.underlying34 ti34 rfl rfl (fun _ => cm34)
  · obtain rfl := Option.some.inj h; exact tok_of Try.underlying42 ti42 rfl rfl (fun h => absurd rfl h)
  · obtain rfl := Option.some.inj h; exact tok_of Try.underlying43 ti43 rfl rfl (fun h => absurd rfl h)
  · obtain rfl := Option.some.inj h; exact tok_of Try.underlying54 ti54 rfl rfl (fun h => absurd rfl h)
  · obtain rfl := Option.some.inj h; exact tok_of Try.underlying55 ti55 rfl rfl (fun h => absurd rfl h)
  · obtain rfl := Option.some.inj h; exact tok_of Try.underlying58 ti58 rfl rfl (fun _ => cm58)
  · obtain rfl := Option.some.inj h; exact tok_of Try.underlying61 ti61 rfl rfl (fun h => absurd rfl h)
  · obtain rfl := Option.some.inj h; exact tok_of Try.underlying62 ti62 rfl rfl (fun h => absurd rfl h)
  · obtain rfl := Option.some.inj h; exact tok_of Try.underlying63 ti63 rfl rfl (fun h => absurd rfl h)
  · obtain rfl := Option.some.inj h; exact tok_of Try.underlying66 ti66 rfl rfl (fun h => absurd rfl h)
  · obtain rfl := Option.some.inj h; exact tok_of Try.underlying73 ti73 rfl rfl (fun h => absurd rfl h)
  · obtain rfl := Option.some.inj h; exact tok_of Try.underlying74 ti74 rfl rfl (fun h => absurd rfl h)
  · obtain rfl := Option.some.inj h; exact tok_of Try.underlying75 ti75 rfl rfl (fun h => absurd rfl h)
  · obtain rfl := Option.some.inj h; exact tok_of Try.underlying77 ti77 rfl rfl (fun h => absurd rfl h)
  · obtain rfl := Option.some.inj h; exact tok_of Try.underlying79 ti79 rfl rfl (fun _ => cm79)
  · obtain rfl := Option.some.inj h; exact tok_of Try.underlying80 ti80 rfl rfl (fun _ => cm80)
  · obtain rfl := Option.some.inj h; exact tok_of Try.underlying83 ti83 rfl rfl (fun h => absurd rfl h)
  · obtain rfl := Option.some.inj h; exact tok_of Try.underlying89 ti89 rfl rfl (fun h => absurd rfl h)
  · obtain rfl := Option.some.inj h; exact tok_of Try.underlying93 ti93 rfl rfl (fun h => absurd rfl h)
  · obtain rfl := Option.some.inj h; exact tok_of Try.underlying98 ti98 rfl rfl (fun h => absurd rfl h)
  · obtain rfl := Option.some.inj h; exact tok_of Try.underlying99 ti99 rfl rfl (fun h => absurd rfl h)
  · obtain rfl := Option.some.inj h; exact tok_of Try.underlying103 ti103 rfl rfl (fun h => absurd rfl h)
  · obtain rfl := Option.some.inj h; exact tok_of Try.underlying104 ti104 rfl rfl (fun h => absurd rfl h)
  · obtain rfl := Option.some.inj h; exact tok_of Try.underlying106 ti106 rfl rfl (fun h => absurd rfl h)
  · obtain rfl := Option.some.inj h; exact tok_of Try.underlying107 ti107 rfl rfl (fun h => absurd rfl h)
  · obtain rfl := Option.some.inj h; exact tok_of Try.underlying108 ti108 rfl rfl (fun h => absurd rfl h)
  · obtain rfl := Option.some.inj h; exact tok_of Try.underlying109 ti109 rfl rfl (fun h => absurd rfl h)
  · obtain rfl := Option.some.inj h; exact tok_of Try.underlying110 ti110 rfl rfl (fun h => absurd rfl h)
  · cases h

theorem mixed : Try.prog.follows .mixedOrders = true := by kernel_rfl
noncomputable abbrev env (N : Nat) (l : List (Ent Try.prog)) (live : List (Nat × List Nat) := []) (ord : List (Nat × DMode) := []) : Env := mkEnv Try.prog T N l live ord
theorem env_ok {N : Nat} {l : List (Ent Try.prog)} {live : List (Nat × List Nat)} {ord : List (Nat × DMode)} : EnvOk Try.prog (env N l live ord) := mkEnv_ok T_ok mixed
theorem Try.own : ownKnob Try.prog.godebug = none := by kernel_rfl
theorem Try.laidOut : laidOutB Try.prog = true := by kernel_rfl
end Go.Proofs.Ytbhlncohfpempaa
