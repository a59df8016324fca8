/- The table of the types of this program, and that it is right; no condition. -/
import Derived.Test.YtjnolfmmlnnoeaaEng11
import Derived.Test.YtjnolfmmlnnoeaaProg
namespace Go.Proofs.Ytjnolfmmlnnoeaa
open Go Go.Eng
def y2 : TI := ⟨.int .i64, 1, 8, [.int .i64 0]⟩
@[simp] theorem y2_s : y2.size = 1 := rfl
@[simp] theorem y2_b : y2.bytes = 8 := rfl
def y3 : TI := ⟨.int .i64, 1, 8, [.int .i64 0]⟩
@[simp] theorem y3_s : y3.size = 1 := rfl
@[simp] theorem y3_b : y3.bytes = 8 := rfl
def y4 : TI := ⟨.bool, 1, 1, [.bool false]⟩
@[simp] theorem y4_s : y4.size = 1 := rfl
@[simp] theorem y4_b : y4.bytes = 1 := rfl
def y5 : TI := ⟨.int .u8, 1, 1, [.int .u8 0]⟩
@[simp] theorem y5_s : y5.size = 1 := rfl
@[simp] theorem y5_b : y5.bytes = 1 := rfl
def y6 : TI := ⟨.int .u8, 1, 1, [.int .u8 0]⟩
@[simp] theorem y6_s : y6.size = 1 := rfl
@[simp] theorem y6_b : y6.bytes = 1 := rfl
def y7 : TI := ⟨.struct #[⟨ "x", 2, 0, false, "", "runtime", 0⟩, ⟨ "y", 3, 1, false, "", "runtime", 8⟩, ⟨ "signed", 4, 2, false, "", "runtime", 16⟩, ⟨ "code", 6, 3, false, "", "runtime", 17⟩], 4, 24, [.int .i64 0, .int .i64 0, .bool false, .int .u8 0]⟩
@[simp] theorem y7_s : y7.size = 4 := rfl
@[simp] theorem y7_b : y7.bytes = 24 := rfl
def y8 : TI := ⟨.struct #[⟨ "x", 2, 0, false, "", "runtime", 0⟩, ⟨ "y", 3, 1, false, "", "runtime", 8⟩, ⟨ "signed", 4, 2, false, "", "runtime", 16⟩, ⟨ "code", 6, 3, false, "", "runtime", 17⟩], 4, 24, [.int .i64 0, .int .i64 0, .bool false, .int .u8 0]⟩
@[simp] theorem y8_s : y8.size = 4 := rfl
@[simp] theorem y8_b : y8.bytes = 24 := rfl
def y9 : TI := ⟨.string, 1, 16, [.string .empty]⟩
@[simp] theorem y9_s : y9.size = 1 := rfl
@[simp] theorem y9_b : y9.bytes = 16 := rfl
def y10 : TI := ⟨.string, 1, 16, [.string .empty]⟩
@[simp] theorem y10_s : y10.size = 1 := rfl
@[simp] theorem y10_b : y10.bytes = 16 := rfl
def y11 : TI := ⟨.string, 1, 16, [.string .empty]⟩
@[simp] theorem y11_s : y11.size = 1 := rfl
@[simp] theorem y11_b : y11.bytes = 16 := rfl
def y12 : TI := ⟨.int .u64, 1, 8, [.int .u64 0]⟩
@[simp] theorem y12_s : y12.size = 1 := rfl
@[simp] theorem y12_b : y12.bytes = 8 := rfl
def y13 : TI := ⟨.struct #[⟨ "msg", 9, 0, false, "", "runtime", 0⟩, ⟨ "addr", 12, 1, false, "", "runtime", 16⟩], 2, 24, [.string .empty, .int .u64 0]⟩
@[simp] theorem y13_s : y13.size = 2 := rfl
@[simp] theorem y13_b : y13.bytes = 24 := rfl
def y14 : TI := ⟨.struct #[⟨ "msg", 9, 0, false, "", "runtime", 0⟩, ⟨ "addr", 12, 1, false, "", "runtime", 16⟩], 2, 24, [.string .empty, .int .u64 0]⟩
@[simp] theorem y14_s : y14.size = 2 := rfl
@[simp] theorem y14_b : y14.bytes = 24 := rfl
def y15 : TI := ⟨.pointer 91, 1, 8, [.pointer none]⟩
@[simp] theorem y15_s : y15.size = 1 := rfl
@[simp] theorem y15_b : y15.bytes = 8 := rfl
def y16 : TI := ⟨.pointer 94, 1, 8, [.pointer none]⟩
@[simp] theorem y16_s : y16.size = 1 := rfl
@[simp] theorem y16_b : y16.bytes = 8 := rfl
def y17 : TI := ⟨.pointer 103, 1, 8, [.pointer none]⟩
@[simp] theorem y17_s : y17.size = 1 := rfl
@[simp] theorem y17_b : y17.bytes = 8 := rfl
def y18 : TI := ⟨.struct #[⟨ "typ", 17, 0, false, "", "internal/runtime/maps", 0⟩], 1, 8, [.pointer none]⟩
@[simp] theorem y18_s : y18.size = 1 := rfl
@[simp] theorem y18_b : y18.bytes = 8 := rfl
def y19 : TI := ⟨.struct #[⟨ "typ", 17, 0, false, "", "internal/runtime/maps", 0⟩], 1, 8, [.pointer none]⟩
@[simp] theorem y19_s : y19.size = 1 := rfl
@[simp] theorem y19_b : y19.bytes = 8 := rfl
def y21 : TI := ⟨.int .i32, 1, 4, [.int .i32 0]⟩
@[simp] theorem y21_s : y21.size = 1 := rfl
@[simp] theorem y21_b : y21.bytes = 4 := rfl
def y22 : TI := ⟨.array 4 3, 4, 32, [.int .i64 0, .int .i64 0, .int .i64 0, .int .i64 0]⟩
@[simp] theorem y22_s : y22.size = 4 := rfl
@[simp] theorem y22_b : y22.bytes = 32 := rfl
def y23 : TI := ⟨.struct #[⟨ "Glasses", 22, 0, false, "", "", 0⟩], 4, 32, [.int .i64 0, .int .i64 0, .int .i64 0, .int .i64 0]⟩
@[simp] theorem y23_s : y23.size = 4 := rfl
@[simp] theorem y23_b : y23.bytes = 32 := rfl
def y24 : TI := ⟨.struct #[⟨ "Glasses", 22, 0, false, "", "", 0⟩], 4, 32, [.int .i64 0, .int .i64 0, .int .i64 0, .int .i64 0]⟩
@[simp] theorem y24_s : y24.size = 4 := rfl
@[simp] theorem y24_b : y24.bytes = 32 := rfl
def y25 : TI := ⟨.struct #[⟨ "Kit", 24, 0, false, "", "", 0⟩, ⟨ "Sand", 22, 4, false, "", "", 32⟩, ⟨ "Clock", 3, 8, false, "", "", 64⟩, ⟨ "Mark", 3, 9, false, "", "", 72⟩, ⟨ "Count", 3, 10, false, "", "", 80⟩], 11, 88, [.int .i64 0, .int .i64 0, .int .i64 0, .int .i64 0, .int .i64 0, .int .i64 0, .int .i64 0, .int .i64 0, .int .i64 0, .int .i64 0, .int .i64 0]⟩
@[simp] theorem y25_s : y25.size = 11 := rfl
@[simp] theorem y25_b : y25.bytes = 88 := rfl
def y26 : TI := ⟨.struct #[⟨ "Kit", 24, 0, false, "", "", 0⟩, ⟨ "Sand", 22, 4, false, "", "", 32⟩, ⟨ "Clock", 3, 8, false, "", "", 64⟩, ⟨ "Mark", 3, 9, false, "", "", 72⟩, ⟨ "Count", 3, 10, false, "", "", 80⟩], 11, 88, [.int .i64 0, .int .i64 0, .int .i64 0, .int .i64 0, .int .i64 0, .int .i64 0, .int .i64 0, .int .i64 0, .int .i64 0, .int .i64 0, .int .i64 0]⟩
@[simp] theorem y26_s : y26.size = 11 := rfl
@[simp] theorem y26_b : y26.bytes = 88 := rfl
def y28 : TI := ⟨.struct #[⟨ "Glasses", 22, 0, false, "", "", 0⟩], 4, 32, [.int .i64 0, .int .i64 0, .int .i64 0, .int .i64 0]⟩
@[simp] theorem y28_s : y28.size = 4 := rfl
@[simp] theorem y28_b : y28.bytes = 32 := rfl
def y29 : TI := ⟨.struct #[⟨ "Kit", 28, 0, false, "", "", 0⟩, ⟨ "Sand", 22, 4, false, "", "", 32⟩, ⟨ "Clock", 3, 8, false, "", "", 64⟩, ⟨ "Mark", 3, 9, false, "", "", 72⟩, ⟨ "Count", 3, 10, false, "", "", 80⟩], 11, 88, [.int .i64 0, .int .i64 0, .int .i64 0, .int .i64 0, .int .i64 0, .int .i64 0, .int .i64 0, .int .i64 0, .int .i64 0, .int .i64 0, .int .i64 0]⟩
@[simp] theorem y29_s : y29.size = 11 := rfl
@[simp] theorem y29_b : y29.bytes = 88 := rfl
def y30 : TI := ⟨.struct #[⟨ "Kit", 28, 0, false, "", "", 0⟩, ⟨ "Sand", 22, 4, false, "", "", 32⟩, ⟨ "Clock", 3, 8, false, "", "", 64⟩, ⟨ "Mark", 3, 9, false, "", "", 72⟩, ⟨ "Count", 3, 10, false, "", "", 80⟩], 11, 88, [.int .i64 0, .int .i64 0, .int .i64 0, .int .i64 0, .int .i64 0, .int .i64 0, .int .i64 0, .int .i64 0, .int .i64 0, .int .i64 0, .int .i64 0]⟩
@[simp] theorem y30_s : y30.size = 11 := rfl
@[simp] theorem y30_b : y30.bytes = 88 := rfl
def y33 : TI := ⟨.slice 67, 1, 24, [.slice none 0 0]⟩
@[simp] theorem y33_s : y33.size = 1 := rfl
@[simp] theorem y33_b : y33.bytes = 24 := rfl
def y36 : TI := ⟨.slice 65, 1, 24, [.slice none 0 0]⟩
@[simp] theorem y36_s : y36.size = 1 := rfl
@[simp] theorem y36_b : y36.bytes = 24 := rfl
def y47 : TI := ⟨.struct #[⟨ "Durable", 9, 0, false, "", "", 0⟩, ⟨ "Pending", 9, 1, false, "", "", 16⟩, ⟨ "Count", 3, 2, false, "", "", 32⟩], 3, 40, [.string .empty, .string .empty, .int .i64 0]⟩
@[simp] theorem y47_s : y47.size = 3 := rfl
@[simp] theorem y47_b : y47.bytes = 40 := rfl
def y48 : TI := ⟨.struct #[⟨ "Durable", 9, 0, false, "", "", 0⟩, ⟨ "Pending", 9, 1, false, "", "", 16⟩, ⟨ "Count", 3, 2, false, "", "", 32⟩], 3, 40, [.string .empty, .string .empty, .int .i64 0]⟩
@[simp] theorem y48_s : y48.size = 3 := rfl
@[simp] theorem y48_b : y48.bytes = 40 := rfl
def y49 : TI := ⟨.struct #[⟨ "Kitchen", 30, 0, false, "", "", 0⟩, ⟨ "Log", 48, 11, false, "", "", 88⟩], 14, 128, [.int .i64 0, .int .i64 0, .int .i64 0, .int .i64 0, .int .i64 0, .int .i64 0, .int .i64 0, .int .i64 0, .int .i64 0, .int .i64 0, .int .i64 0, .string .empty, .string .empty, .int .i64 0]⟩
@[simp] theorem y49_s : y49.size = 14 := rfl
@[simp] theorem y49_b : y49.bytes = 128 := rfl
def y50 : TI := ⟨.struct #[⟨ "Kitchen", 30, 0, false, "", "", 0⟩, ⟨ "Log", 48, 11, false, "", "", 88⟩], 14, 128, [.int .i64 0, .int .i64 0, .int .i64 0, .int .i64 0, .int .i64 0, .int .i64 0, .int .i64 0, .int .i64 0, .int .i64 0, .int .i64 0, .int .i64 0, .string .empty, .string .empty, .int .i64 0]⟩
@[simp] theorem y50_s : y50.size = 14 := rfl
@[simp] theorem y50_b : y50.bytes = 128 := rfl
def y54 : TI := ⟨.struct #[⟨ "Command", 9, 0, false, "", "", 0⟩, ⟨ "Reply", 9, 1, false, "", "", 16⟩], 2, 32, [.string .empty, .string .empty]⟩
@[simp] theorem y54_s : y54.size = 2 := rfl
@[simp] theorem y54_b : y54.bytes = 32 := rfl
def y55 : TI := ⟨.struct #[⟨ "Command", 9, 0, false, "", "", 0⟩, ⟨ "Reply", 9, 1, false, "", "", 16⟩], 2, 32, [.string .empty, .string .empty]⟩
@[simp] theorem y55_s : y55.size = 2 := rfl
@[simp] theorem y55_b : y55.bytes = 32 := rfl
def y58 : TI := ⟨.struct #[⟨ "Command", 9, 0, false, "", "", 0⟩, ⟨ "Reply", 9, 1, false, "", "", 16⟩], 2, 32, [.string .empty, .string .empty]⟩
@[simp] theorem y58_s : y58.size = 2 := rfl
@[simp] theorem y58_b : y58.bytes = 32 := rfl
def y64 : TI := ⟨.struct #[⟨ "Minutes", 3, 0, false, "", "", 0⟩, ⟨ "From", 3, 1, false, "", "", 8⟩, ⟨ "To", 3, 2, false, "", "", 16⟩], 3, 24, [.int .i64 0, .int .i64 0, .int .i64 0]⟩
@[simp] theorem y64_s : y64.size = 3 := rfl
@[simp] theorem y64_b : y64.bytes = 24 := rfl
def y65 : TI := ⟨.struct #[⟨ "Minutes", 3, 0, false, "", "", 0⟩, ⟨ "From", 3, 1, false, "", "", 8⟩, ⟨ "To", 3, 2, false, "", "", 16⟩], 3, 24, [.int .i64 0, .int .i64 0, .int .i64 0]⟩
@[simp] theorem y65_s : y65.size = 3 := rfl
@[simp] theorem y65_b : y65.bytes = 24 := rfl
def y67 : TI := ⟨.struct #[⟨ "Minutes", 3, 0, false, "", "", 0⟩, ⟨ "From", 3, 1, false, "", "", 8⟩, ⟨ "To", 3, 2, false, "", "", 16⟩], 3, 24, [.int .i64 0, .int .i64 0, .int .i64 0]⟩
@[simp] theorem y67_s : y67.size = 3 := rfl
@[simp] theorem y67_b : y67.bytes = 24 := rfl
def y85 : TI := ⟨.int .u64, 1, 8, [.int .u64 0]⟩
@[simp] theorem y85_s : y85.size = 1 := rfl
@[simp] theorem y85_b : y85.bytes = 8 := rfl
def y86 : TI := ⟨.int .u32, 1, 4, [.int .u32 0]⟩
@[simp] theorem y86_s : y86.size = 1 := rfl
@[simp] theorem y86_b : y86.bytes = 4 := rfl
def y90 : TI := ⟨.struct #[⟨ "_interface", 17, 0, false, "", "runtime", 0⟩, ⟨ "concrete", 17, 1, false, "", "runtime", 8⟩, ⟨ "asserted", 17, 2, false, "", "runtime", 16⟩, ⟨ "missingMethod", 9, 3, false, "", "runtime", 24⟩], 4, 40, [.pointer none, .pointer none, .pointer none, .string .empty]⟩
@[simp] theorem y90_s : y90.size = 4 := rfl
@[simp] theorem y90_b : y90.bytes = 40 := rfl
def y91 : TI := ⟨.struct #[⟨ "_interface", 17, 0, false, "", "runtime", 0⟩, ⟨ "concrete", 17, 1, false, "", "runtime", 8⟩, ⟨ "asserted", 17, 2, false, "", "runtime", 16⟩, ⟨ "missingMethod", 9, 3, false, "", "runtime", 24⟩], 4, 40, [.pointer none, .pointer none, .pointer none, .string .empty]⟩
@[simp] theorem y91_s : y91.size = 4 := rfl
@[simp] theorem y91_b : y91.bytes = 40 := rfl
def y96 : TI := ⟨.int .u8, 1, 1, [.int .u8 0]⟩
@[simp] theorem y96_s : y96.size = 1 := rfl
@[simp] theorem y96_b : y96.bytes = 1 := rfl
def y97 : TI := ⟨.int .u8, 1, 1, [.int .u8 0]⟩
@[simp] theorem y97_s : y97.size = 1 := rfl
@[simp] theorem y97_b : y97.bytes = 1 := rfl
def y99 : TI := ⟨.pointer 5, 1, 8, [.pointer none]⟩
@[simp] theorem y99_s : y99.size = 1 := rfl
@[simp] theorem y99_b : y99.bytes = 8 := rfl
def y100 : TI := ⟨.int .i32, 1, 4, [.int .i32 0]⟩
@[simp] theorem y100_s : y100.size = 1 := rfl
@[simp] theorem y100_b : y100.bytes = 4 := rfl
def y101 : TI := ⟨.int .i32, 1, 4, [.int .i32 0]⟩
@[simp] theorem y101_s : y101.size = 1 := rfl
@[simp] theorem y101_b : y101.bytes = 4 := rfl
def y102 : TI := ⟨.struct #[⟨ "Size_", 12, 0, false, "", "", 0⟩, ⟨ "PtrBytes", 12, 1, false, "", "", 8⟩, ⟨ "Hash", 86, 2, false, "", "", 16⟩, ⟨ "TFlag", 96, 3, false, "", "", 20⟩, ⟨ "Align_", 5, 4, false, "", "", 21⟩, ⟨ "FieldAlign_", 5, 5, false, "", "", 22⟩, ⟨ "Kind_", 97, 6, false, "", "", 23⟩, ⟨ "Equal", 98, 7, false, "", "", 24⟩, ⟨ "GCData", 99, 8, false, "", "", 32⟩, ⟨ "Str", 100, 9, false, "", "", 40⟩, ⟨ "PtrToThis", 101, 10, false, "", "", 44⟩], 11, 48, [.int .u64 0, .int .u64 0, .int .u32 0, .int .u8 0, .int .u8 0, .int .u8 0, .int .u8 0, .nilFunc, .pointer none, .int .i32 0, .int .i32 0]⟩
@[simp] theorem y102_s : y102.size = 11 := rfl
@[simp] theorem y102_b : y102.bytes = 48 := rfl
def y103 : TI := ⟨.struct #[⟨ "Size_", 12, 0, false, "", "", 0⟩, ⟨ "PtrBytes", 12, 1, false, "", "", 8⟩, ⟨ "Hash", 86, 2, false, "", "", 16⟩, ⟨ "TFlag", 96, 3, false, "", "", 20⟩, ⟨ "Align_", 5, 4, false, "", "", 21⟩, ⟨ "FieldAlign_", 5, 5, false, "", "", 22⟩, ⟨ "Kind_", 97, 6, false, "", "", 23⟩, ⟨ "Equal", 98, 7, false, "", "", 24⟩, ⟨ "GCData", 99, 8, false, "", "", 32⟩, ⟨ "Str", 100, 9, false, "", "", 40⟩, ⟨ "PtrToThis", 101, 10, false, "", "", 44⟩], 11, 48, [.int .u64 0, .int .u64 0, .int .u32 0, .int .u8 0, .int .u8 0, .int .u8 0, .int .u8 0, .nilFunc, .pointer none, .int .i32 0, .int .i32 0]⟩
@[simp] theorem y103_s : y103.size = 11 := rfl
@[simp] theorem y103_b : y103.bytes = 48 := rfl
def y107 : TI := ⟨.slice 58, 1, 24, [.slice none 0 0]⟩
@[simp] theorem y107_s : y107.size = 1 := rfl
@[simp] theorem y107_b : y107.bytes = 24 := rfl
def y108 : TI := ⟨.slice 3, 1, 24, [.slice none 0 0]⟩
@[simp] theorem y108_s : y108.size = 1 := rfl
@[simp] theorem y108_b : y108.bytes = 24 := rfl
def T : TT := fun t => match t with
  | 2 => some y2
  | 3 => some y3
  | 4 => some y4
  | 5 => some y5
  | 6 => some y6
  | 7 => some y7
  | 8 => some y8
  | 9 => some y9
  | 10 => some y10
  | 11 => some y11
  | 12 => some y12
  | 13 => some y13
  | 14 => some y14
  | 15 => some y15
  | 16 => some y16
  | 17 => some y17
  | 18 => some y18
  | 19 => some y19
  | 21 => some y21
  | 22 => some y22
  | 23 => some y23
  | 24 => some y24
  | 25 => some y25
  | 26 => some y26
  | 28 => some y28
  | 29 => some y29
  | 30 => some y30
  | 33 => some y33
  | 36 => some y36
  | 47 => some y47
  | 48 => some y48
  | 49 => some y49
  | 50 => some y50
  | 54 => some y54
  | 55 => some y55
  | 58 => some y58
  | 64 => some y64
  | 65 => some y65
  | 67 => some y67
  | 85 => some y85
  | 86 => some y86
  | 90 => some y90
  | 91 => some y91
  | 96 => some y96
  | 97 => some y97
  | 99 => some y99
  | 100 => some y100
  | 101 => some y101
  | 102 => some y102
  | 103 => some y103
  | 107 => some y107
  | 108 => some y108
  | _ => none

theorem ti2 : (Try.prog.info? 2).map (fun i => (i.size, i.bytes, i.zero.map (·.cells))) = some (1, 8, some ⟨[.int .i64 0]⟩) := by kernel_rfl
theorem ti3 : (Try.prog.info? 3).map (fun i => (i.size, i.bytes, i.zero.map (·.cells))) = some (1, 8, some ⟨[.int .i64 0]⟩) := by kernel_rfl
theorem ti4 : (Try.prog.info? 4).map (fun i => (i.size, i.bytes, i.zero.map (·.cells))) = some (1, 1, some ⟨[.bool false]⟩) := by kernel_rfl
theorem ti5 : (Try.prog.info? 5).map (fun i => (i.size, i.bytes, i.zero.map (·.cells))) = some (1, 1, some ⟨[.int .u8 0]⟩) := by kernel_rfl
theorem ti6 : (Try.prog.info? 6).map (fun i => (i.size, i.bytes, i.zero.map (·.cells))) = some (1, 1, some ⟨[.int .u8 0]⟩) := by kernel_rfl
theorem ti7 : (Try.prog.info? 7).map (fun i => (i.size, i.bytes, i.zero.map (·.cells))) = some (4, 24, some ⟨[.int .i64 0, .int .i64 0, .bool false, .int .u8 0]⟩) := by kernel_rfl
theorem ti8 : (Try.prog.info? 8).map (fun i => (i.size, i.bytes, i.zero.map (·.cells))) = some (4, 24, some ⟨[.int .i64 0, .int .i64 0, .bool false, .int .u8 0]⟩) := by kernel_rfl
theorem ti9 : (Try.prog.info? 9).map (fun i => (i.size, i.bytes, i.zero.map (·.cells))) = some (1, 16, some ⟨[.string .empty]⟩) := by kernel_rfl
theorem ti10 : (Try.prog.info? 10).map (fun i => (i.size, i.bytes, i.zero.map (·.cells))) = some (1, 16, some ⟨[.string .empty]⟩) := by kernel_rfl
theorem ti11 : (Try.prog.info? 11).map (fun i => (i.size, i.bytes, i.zero.map (·.cells))) = some (1, 16, some ⟨[.string .empty]⟩) := by kernel_rfl
theorem ti12 : (Try.prog.info? 12).map (fun i => (i.size, i.bytes, i.zero.map (·.cells))) = some (1, 8, some ⟨[.int .u64 0]⟩) := by kernel_rfl
theorem ti13 : (Try.prog.info? 13).map (fun i => (i.size, i.bytes, i.zero.map (·.cells))) = some (2, 24, some ⟨[.string .empty, .int .u64 0]⟩) := by kernel_rfl
theorem ti14 : (Try.prog.info? 14).map (fun i => (i.size, i.bytes, i.zero.map (·.cells))) = some (2, 24, some ⟨[.string .empty, .int .u64 0]⟩) := by kernel_rfl
theorem ti15 : (Try.prog.info? 15).map (fun i => (i.size, i.bytes, i.zero.map (·.cells))) = some (1, 8, some ⟨[.pointer none]⟩) := by kernel_rfl
theorem ti16 : (Try.prog.info? 16).map (fun i => (i.size, i.bytes, i.zero.map (·.cells))) = some (1, 8, some ⟨[.pointer none]⟩) := by kernel_rfl
theorem ti17 : (Try.prog.info? 17).map (fun i => (i.size, i.bytes, i.zero.map (·.cells))) = some (1, 8, some ⟨[.pointer none]⟩) := by kernel_rfl
theorem ti18 : (Try.prog.info? 18).map (fun i => (i.size, i.bytes, i.zero.map (·.cells))) = some (1, 8, some ⟨[.pointer none]⟩) := by kernel_rfl
theorem ti19 : (Try.prog.info? 19).map (fun i => (i.size, i.bytes, i.zero.map (·.cells))) = some (1, 8, some ⟨[.pointer none]⟩) := by kernel_rfl
theorem ti21 : (Try.prog.info? 21).map (fun i => (i.size, i.bytes, i.zero.map (·.cells))) = some (1, 4, some ⟨[.int .i32 0]⟩) := by kernel_rfl
theorem ti22 : (Try.prog.info? 22).map (fun i => (i.size, i.bytes, i.zero.map (·.cells))) = some (4, 32, some ⟨[.int .i64 0, .int .i64 0, .int .i64 0, .int .i64 0]⟩) := by kernel_rfl
theorem ti23 : (Try.prog.info? 23).map (fun i => (i.size, i.bytes, i.zero.map (·.cells))) = some (4, 32, some ⟨[.int .i64 0, .int .i64 0, .int .i64 0, .int .i64 0]⟩) := by kernel_rfl
theorem ti24 : (Try.prog.info? 24).map (fun i => (i.size, i.bytes, i.zero.map (·.cells))) = some (4, 32, some ⟨[.int .i64 0, .int .i64 0, .int .i64 0, .int .i64 0]⟩) := by kernel_rfl
theorem ti25 : (Try.prog.info? 25).map (fun i => (i.size, i.bytes, i.zero.map (·.cells))) = some (11, 88, some ⟨[.int .i64 0, .int .i64 0, .int .i64 0, .int .i64 0, .int .i64 0, .int .i64 0, .int .i64 0, .int .i64 0, .int .i64 0, .int .i64 0, .int .i64 0]⟩) := by kernel_rfl
theorem ti26 : (Try.prog.info? 26).map (fun i => (i.size, i.bytes, i.zero.map (·.cells))) = some (11, 88, some ⟨[.int .i64 0, .int .i64 0, .int .i64 0, .int .i64 0, .int .i64 0, .int .i64 0, .int .i64 0, .int .i64 0, .int .i64 0, .int .i64 0, .int .i64 0]⟩) := by kernel_rfl
theorem ti28 : (Try.prog.info? 28).map (fun i => (i.size, i.bytes, i.zero.map (·.cells))) = some (4, 32, some ⟨[.int .i64 0, .int .i64 0, .int .i64 0, .int .i64 0]⟩) := by kernel_rfl
theorem ti29 : (Try.prog.info? 29).map (fun i => (i.size, i.bytes, i.zero.map (·.cells))) = some (11, 88, some ⟨[.int .i64 0, .int .i64 0, .int .i64 0, .int .i64 0, .int .i64 0, .int .i64 0, .int .i64 0, .int .i64 0, .int .i64 0, .int .i64 0, .int .i64 0]⟩) := by kernel_rfl
theorem ti30 : (Try.prog.info? 30).map (fun i => (i.size, i.bytes, i.zero.map (·.cells))) = some (11, 88, some ⟨[.int .i64 0, .int .i64 0, .int .i64 0, .int .i64 0, .int .i64 0, .int .i64 0, .int .i64 0, .int .i64 0, .int .i64 0, .int .i64 0, .int .i64 0]⟩) := by kernel_rfl
theorem ti33 : (Try.prog.info? 33).map (fun i => (i.size, i.bytes, i.zero.map (·.cells))) = some (1, 24, some ⟨[.slice none 0 0]⟩) := by kernel_rfl
theorem ti36 : (Try.prog.info? 36).map (fun i => (i.size, i.bytes, i.zero.map (·.cells))) = some (1, 24, some ⟨[.slice none 0 0]⟩) := by kernel_rfl
theorem ti47 : (Try.prog.info? 47).map (fun i => (i.size, i.bytes, i.zero.map (·.cells))) = some (3, 40, some ⟨[.string .empty, .string .empty, .int .i64 0]⟩) := by kernel_rfl
theorem ti48 : (Try.prog.info? 48).map (fun i => (i.size, i.bytes, i.zero.map (·.cells))) = some (3, 40, some ⟨[.string .empty, .string .empty, .int .i64 0]⟩) := by kernel_rfl
theorem ti49 : (Try.prog.info? 49).map (fun i => (i.size, i.bytes, i.zero.map (·.cells))) = some (14, 128, some ⟨[.int .i64 0, .int .i64 0, .int .i64 0, .int .i64 0, .int .i64 0, .int .i64 0, .int .i64 0, .int .i64 0, .int .i64 0, .int .i64 0, .int .i64 0, .string .empty, .string .empty, .int .i64 0]⟩) := by kernel_rfl
theorem ti50 : (Try.prog.info? 50).map (fun i => (i.size, i.bytes, i.zero.map (·.cells))) = some (14, 128, some ⟨[.int .i64 0, .int .i64 0, .int .i64 0, .int .i64 0, .int .i64 0, .int .i64 0, .int .i64 0, .int .i64 0, .int .i64 0, .int .i64 0, .int .i64 0, .string .empty, .string .empty, .int .i64 0]⟩) := by kernel_rfl
theorem ti54 : (Try.prog.info? 54).map (fun i => (i.size, i.bytes, i.zero.map (·.cells))) = some (2, 32, some ⟨[.string .empty, .string .empty]⟩) := by kernel_rfl
theorem ti55 : (Try.prog.info? 55).map (fun i => (i.size, i.bytes, i.zero.map (·.cells))) = some (2, 32, some ⟨[.string .empty, .string .empty]⟩) := by kernel_rfl
theorem ti58 : (Try.prog.info? 58).map (fun i => (i.size, i.bytes, i.zero.map (·.cells))) = some (2, 32, some ⟨[.string .empty, .string .empty]⟩) := by kernel_rfl
theorem ti64 : (Try.prog.info? 64).map (fun i => (i.size, i.bytes, i.zero.map (·.cells))) = some (3, 24, some ⟨[.int .i64 0, .int .i64 0, .int .i64 0]⟩) := by kernel_rfl
theorem ti65 : (Try.prog.info? 65).map (fun i => (i.size, i.bytes, i.zero.map (·.cells))) = some (3, 24, some ⟨[.int .i64 0, .int .i64 0, .int .i64 0]⟩) := by kernel_rfl
theorem ti67 : (Try.prog.info? 67).map (fun i => (i.size, i.bytes, i.zero.map (·.cells))) = some (3, 24, some ⟨[.int .i64 0, .int .i64 0, .int .i64 0]⟩) := by kernel_rfl
theorem ti85 : (Try.prog.info? 85).map (fun i => (i.size, i.bytes, i.zero.map (·.cells))) = some (1, 8, some ⟨[.int .u64 0]⟩) := by kernel_rfl
theorem ti86 : (Try.prog.info? 86).map (fun i => (i.size, i.bytes, i.zero.map (·.cells))) = some (1, 4, some ⟨[.int .u32 0]⟩) := by kernel_rfl
theorem ti90 : (Try.prog.info? 90).map (fun i => (i.size, i.bytes, i.zero.map (·.cells))) = some (4, 40, some ⟨[.pointer none, .pointer none, .pointer none, .string .empty]⟩) := by kernel_rfl
theorem ti91 : (Try.prog.info? 91).map (fun i => (i.size, i.bytes, i.zero.map (·.cells))) = some (4, 40, some ⟨[.pointer none, .pointer none, .pointer none, .string .empty]⟩) := by kernel_rfl
theorem ti96 : (Try.prog.info? 96).map (fun i => (i.size, i.bytes, i.zero.map (·.cells))) = some (1, 1, some ⟨[.int .u8 0]⟩) := by kernel_rfl
theorem ti97 : (Try.prog.info? 97).map (fun i => (i.size, i.bytes, i.zero.map (·.cells))) = some (1, 1, some ⟨[.int .u8 0]⟩) := by kernel_rfl
theorem ti99 : (Try.prog.info? 99).map (fun i => (i.size, i.bytes, i.zero.map (·.cells))) = some (1, 8, some ⟨[.pointer none]⟩) := by kernel_rfl
theorem ti100 : (Try.prog.info? 100).map (fun i => (i.size, i.bytes, i.zero.map (·.cells))) = some (1, 4, some ⟨[.int .i32 0]⟩) := by kernel_rfl
theorem ti101 : (Try.prog.info? 101).map (fun i => (i.size, i.bytes, i.zero.map (·.cells))) = some (1, 4, some ⟨[.int .i32 0]⟩) := by kernel_rfl
theorem ti102 : (Try.prog.info? 102).map (fun i => (i.size, i.bytes, i.zero.map (·.cells))) = some (11, 48, some ⟨[.int .u64 0, .int .u64 0, .int .u32 0, .int .u8 0, .int .u8 0, .int .u8 0, .int .u8 0, .nilFunc, .pointer none, .int .i32 0, .int .i32 0]⟩) := by kernel_rfl
theorem ti103 : (Try.prog.info? 103).map (fun i => (i.size, i.bytes, i.zero.map (·.cells))) = some (11, 48, some ⟨[.int .u64 0, .int .u64 0, .int .u32 0, .int .u8 0, .int .u8 0, .int .u8 0, .int .u8 0, .nilFunc, .pointer none, .int .i32 0, .int .i32 0]⟩) := by kernel_rfl
theorem ti107 : (Try.prog.info? 107).map (fun i => (i.size, i.bytes, i.zero.map (·.cells))) = some (1, 24, some ⟨[.slice none 0 0]⟩) := by kernel_rfl
theorem ti108 : (Try.prog.info? 108).map (fun i => (i.size, i.bytes, i.zero.map (·.cells))) = some (1, 24, some ⟨[.slice none 0 0]⟩) := by kernel_rfl

theorem tok_of {t s b : Nat} {d : TypeDesc} {z : List Value} (h1 : Try.prog.underlying t = some d) (h2 : (Try.prog.info? t).map (fun i => (i.size, i.bytes, i.zero.map (·.cells))) = some (s, b, some ⟨z⟩)) (h3 : z.length = s) (h4 : z.all flat0 = true) :
    Try.prog.underlying t = some d ∧ ∃ i, Try.prog.info? t = some i ∧ i.size = s ∧ i.bytes = b ∧ (∃ v, i.zero = some v ∧ v.cells = ⟨z⟩) ∧ z.length = s ∧ z.all flat0 = true := by
  refine ⟨h1, ?_⟩
  cases e : Try.prog.info? t with
  | none => rw [e] at h2; cases h2
  | some i =>
    rw [e] at h2
    simp only [Option.map_some, Option.some.injEq, Prod.mk.injEq] at h2
    refine ⟨i, rfl, h2.1, h2.2.1, ?_, h3, h4⟩
    cases e2 : i.zero with
    | none => rw [e2] at h2; cases h2.2.2
    | some v => rw [e2] at h2; exact ⟨v, rfl, Option.some.inj h2.2.2⟩

theorem T_ok : TOk Try.prog T := by
  intro t ti h
  unfold T at h
  split at h
  · obtain rfl := Option.some.inj h; exact tok_of Try.underlying2 ti2 rfl rfl
  · obtain rfl := Option.some.inj h; exact tok_of Try.underlying3 ti3 rfl rfl
  · obtain rfl := Option.some.inj h; exact tok_of Try.underlying4 ti4 rfl rfl
  · obtain rfl := Option.some.inj h; exact tok_of Try.underlying5 ti5 rfl rfl
  · obtain rfl := Option.some.inj h; exact tok_of Try.underlying6 ti6 rfl rfl
  · obtain rfl := Option.some.inj h; exact tok_of Try.underlying7 ti7 rfl rfl
  · obtain rfl := Option.some.inj h; exact tok_of Try.underlying8 ti8 rfl rfl
  · obtain rfl := Option.some.inj h; exact tok_of Try.underlying9 ti9 rfl rfl
  · obtain rfl := Option.some.inj h; exact tok_of Try.underlying10 ti10 rfl rfl
  · obtain rfl := Option.some.inj h; exact tok_of Try.underlying11 ti11 rfl rfl
  · obtain rfl := Option.some.inj h; exact tok_of Try.underlying12 ti12 rfl rfl
  · obtain rfl := Option.some.inj h; exact tok_of Try.underlying13 ti13 rfl rfl
  · obtain rfl := Option.some.inj h; exact tok_of Try.underlying14 ti14 rfl rfl
  · obtain rfl := Option.some.inj h; exact tok_of Try.underlying15 ti15 rfl rfl
  · obtain rfl := Option.some.inj h; exact tok_of Try.underlying16 ti16 rfl rfl
  · obtain rfl := Option.some.inj h; exact tok_of Try.underlying17 ti17 rfl rfl
  · obtain rfl := Option.some.inj h; exact tok_of Try.underlying18 ti18 rfl rfl
  · obtain rfl := Option.some.inj h; exact tok_of Try.underlying19 ti19 rfl rfl
  · obtain rfl := Option.some.inj h; exact tok_of Try.underlying21 ti21 rfl rfl
  · obtain rfl := Option.some.inj h; exact tok_of Try.underlying22 ti22 rfl rfl
  · obtain rfl := Option.some.inj h; exact tok_of Try.underlying23 ti23 rfl rfl
  · obtain rfl := Option.some.inj h; exact tok_of Try.underlying24 ti24 rfl rfl
  · obtain rfl := Option.some.inj h; exact tok_of Try.underlying25 ti25 rfl rfl
  · obtain rfl := Option.some.inj h; exact tok_of Try.underlying26 ti26 rfl rfl
  · obtain rfl := Option.some.inj h; exact tok_of Try.underlying28 ti28 rfl rfl
  · obtain rfl := Option.some.inj h; exact tok_of Try.underlying29 ti29 rfl rfl
  · obtain rfl := Option.some.inj h; exact tok_of Try.underlying30 ti30 rfl rfl
  · obtain rfl := Option.some.inj h; exact tok_of Try.underlying33 ti33 rfl rfl
  · obtain rfl := Option.some.inj h; exact tok_of Try.underlying36 ti36 rfl rfl
  · obtain rfl := Option.some.inj h; exact tok_of Try.underlying47 ti47 rfl rfl
  · obtain rfl := Option.some.inj h; exact tok_of Try.underlying48 ti48 rfl rfl
  · obtain rfl := Option.some.inj h; exact tok_of Try.underlying49 ti49 rfl rfl
  · obtain rfl := Option.some.inj h; exact tok_of Try.underlying50 ti50 rfl rfl
  · obtain rfl := Option.some.inj h; exact tok_of Try.underlying54 ti54 rfl rfl
  · obtain rfl := Option.some.inj h; exact tok_of Try.underlying55 ti55 rfl rfl
  · obtain rfl := Option.some.inj h; exact tok_of Try.underlying58 ti58 rfl rfl
  · obtain rfl := Option.some.inj h; exact tok_of Try.underlying64 ti64 rfl rfl
  · obtain rfl := Option.some.inj h; exact tok_of Try.underlying65 ti65 rfl rfl
  · obtain rfl := Option.some.inj h; exact tok_of Try.underlying67 ti67 rfl rfl
  · obtain rfl := Option.some.inj h; exact tok_of Try.underlying85 ti85 rfl rfl
  · obtain rfl := Option.some.inj h; exact tok_of Try.underlying86 ti86 rfl rfl
  · obtain rfl := Option.some.inj h; exact tok_of Try.underlying90 ti90 rfl rfl
  · obtain rfl := Option.some.inj h; exact tok_of Try.underlying91 ti91 rfl rfl
  · obtain rfl := Option.some.inj h; exact tok_of Try.underlying96 ti96 rfl rfl
  · obtain rfl := Option.some.inj h; exact tok_of Try.underlying97 ti97 rfl rfl
  · obtain rfl := Option.some.inj h; exact tok_of Try.underlying99 ti99 rfl rfl
  · obtain rfl := Option.some.inj h; exact tok_of Try.underlying100 ti100 rfl rfl
  · obtain rfl := Option.some.inj h; exact tok_of Try.underlying101 ti101 rfl rfl
  · obtain rfl := Option.some.inj h; exact tok_of Try.underlying102 ti102 rfl rfl
  · obtain rfl := Option.some.inj h; exact tok_of Try.underlying103 ti103 rfl rfl
  · obtain rfl := Option.some.inj h; exact tok_of Try.underlying107 ti107 rfl rfl
  · obtain rfl := Option.some.inj h; exact tok_of Try.underlying108 ti108 rfl rfl
  · cases h

theorem mixed : Try.prog.follows .mixedOrders = true := by kernel_rfl
abbrev env (N : Nat) (l : List (Ent Try.prog)) (live : List (Nat × List Nat) := []) : Env := mkEnv Try.prog T N l live
theorem env_ok {N : Nat} {l : List (Ent Try.prog)} {live : List (Nat × List Nat)} : EnvOk Try.prog (env N l live) := mkEnv_ok T_ok mixed
theorem Try.own : ownKnob Try.prog.godebug = none := by kernel_rfl
theorem Try.laidOut : laidOutB Try.prog = true := by kernel_rfl
end Go.Proofs.Ytjnolfmmlnnoeaa
