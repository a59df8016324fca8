/- The table of the types of this program, and that it is right; no condition. -/
import Derived.Test.YtjnolfmmlnnoeaaEng9
import Derived.Test.YtjnolfmmlnnoeaaProg
namespace Go.Proofs.Ytjnolfmmlnnoeaa
open Go Go.Eng
def T : TT := fun t => match t with
  | 2 => some ⟨.int .i64, 1, 8, [.int .i64 0]⟩
  | 3 => some ⟨.int .i64, 1, 8, [.int .i64 0]⟩
  | 4 => some ⟨.bool, 1, 1, [.bool false]⟩
  | 5 => some ⟨.int .u8, 1, 1, [.int .u8 0]⟩
  | 6 => some ⟨.int .u8, 1, 1, [.int .u8 0]⟩
  | 7 => some ⟨.struct #[⟨ "x", 2, 0, false, "", "runtime", 0⟩, ⟨ "y", 3, 1, false, "", "runtime", 8⟩, ⟨ "signed", 4, 2, false, "", "runtime", 16⟩, ⟨ "code", 6, 3, false, "", "runtime", 17⟩], 4, 24, [.int .i64 0, .int .i64 0, .bool false, .int .u8 0]⟩
  | 8 => some ⟨.struct #[⟨ "x", 2, 0, false, "", "runtime", 0⟩, ⟨ "y", 3, 1, false, "", "runtime", 8⟩, ⟨ "signed", 4, 2, false, "", "runtime", 16⟩, ⟨ "code", 6, 3, false, "", "runtime", 17⟩], 4, 24, [.int .i64 0, .int .i64 0, .bool false, .int .u8 0]⟩
  | 9 => some ⟨.string, 1, 16, [.string .empty]⟩
  | 10 => some ⟨.string, 1, 16, [.string .empty]⟩
  | 11 => some ⟨.string, 1, 16, [.string .empty]⟩
  | 12 => some ⟨.int .u64, 1, 8, [.int .u64 0]⟩
  | 13 => some ⟨.struct #[⟨ "msg", 9, 0, false, "", "runtime", 0⟩, ⟨ "addr", 12, 1, false, "", "runtime", 16⟩], 2, 24, [.string .empty, .int .u64 0]⟩
  | 14 => some ⟨.struct #[⟨ "msg", 9, 0, false, "", "runtime", 0⟩, ⟨ "addr", 12, 1, false, "", "runtime", 16⟩], 2, 24, [.string .empty, .int .u64 0]⟩
  | 15 => some ⟨.pointer 91, 1, 8, [.pointer none]⟩
  | 16 => some ⟨.pointer 94, 1, 8, [.pointer none]⟩
  | 17 => some ⟨.pointer 103, 1, 8, [.pointer none]⟩
  | 18 => some ⟨.struct #[⟨ "typ", 17, 0, false, "", "internal/runtime/maps", 0⟩], 1, 8, [.pointer none]⟩
  | 19 => some ⟨.struct #[⟨ "typ", 17, 0, false, "", "internal/runtime/maps", 0⟩], 1, 8, [.pointer none]⟩
  | 21 => some ⟨.int .i32, 1, 4, [.int .i32 0]⟩
  | 22 => some ⟨.array 4 3, 4, 32, [.int .i64 0, .int .i64 0, .int .i64 0, .int .i64 0]⟩
  | 23 => some ⟨.struct #[⟨ "Glasses", 22, 0, false, "", "", 0⟩], 4, 32, [.int .i64 0, .int .i64 0, .int .i64 0, .int .i64 0]⟩
  | 24 => some ⟨.struct #[⟨ "Glasses", 22, 0, false, "", "", 0⟩], 4, 32, [.int .i64 0, .int .i64 0, .int .i64 0, .int .i64 0]⟩
  | 25 => some ⟨.struct #[⟨ "Kit", 24, 0, false, "", "", 0⟩, ⟨ "Sand", 22, 4, false, "", "", 32⟩, ⟨ "Clock", 3, 8, false, "", "", 64⟩, ⟨ "Mark", 3, 9, false, "", "", 72⟩, ⟨ "Count", 3, 10, false, "", "", 80⟩], 11, 88, [.int .i64 0, .int .i64 0, .int .i64 0, .int .i64 0, .int .i64 0, .int .i64 0, .int .i64 0, .int .i64 0, .int .i64 0, .int .i64 0, .int .i64 0]⟩
  | 26 => some ⟨.struct #[⟨ "Kit", 24, 0, false, "", "", 0⟩, ⟨ "Sand", 22, 4, false, "", "", 32⟩, ⟨ "Clock", 3, 8, false, "", "", 64⟩, ⟨ "Mark", 3, 9, false, "", "", 72⟩, ⟨ "Count", 3, 10, false, "", "", 80⟩], 11, 88, [.int .i64 0, .int .i64 0, .int .i64 0, .int .i64 0, .int .i64 0, .int .i64 0, .int .i64 0, .int .i64 0, .int .i64 0, .int .i64 0, .int .i64 0]⟩
  | 28 => some ⟨.struct #[⟨ "Glasses", 22, 0, false, "", "", 0⟩], 4, 32, [.int .i64 0, .int .i64 0, .int .i64 0, .int .i64 0]⟩
  | 29 => some ⟨.struct #[⟨ "Kit", 28, 0, false, "", "", 0⟩, ⟨ "Sand", 22, 4, false, "", "", 32⟩, ⟨ "Clock", 3, 8, false, "", "", 64⟩, ⟨ "Mark", 3, 9, false, "", "", 72⟩, ⟨ "Count", 3, 10, false, "", "", 80⟩], 11, 88, [.int .i64 0, .int .i64 0, .int .i64 0, .int .i64 0, .int .i64 0, .int .i64 0, .int .i64 0, .int .i64 0, .int .i64 0, .int .i64 0, .int .i64 0]⟩
  | 30 => some ⟨.struct #[⟨ "Kit", 28, 0, false, "", "", 0⟩, ⟨ "Sand", 22, 4, false, "", "", 32⟩, ⟨ "Clock", 3, 8, false, "", "", 64⟩, ⟨ "Mark", 3, 9, false, "", "", 72⟩, ⟨ "Count", 3, 10, false, "", "", 80⟩], 11, 88, [.int .i64 0, .int .i64 0, .int .i64 0, .int .i64 0, .int .i64 0, .int .i64 0, .int .i64 0, .int .i64 0, .int .i64 0, .int .i64 0, .int .i64 0]⟩
  | 33 => some ⟨.slice 67, 1, 24, [.slice none 0 0]⟩
  | 36 => some ⟨.slice 65, 1, 24, [.slice none 0 0]⟩
  | 47 => some ⟨.struct #[⟨ "Durable", 9, 0, false, "", "", 0⟩, ⟨ "Pending", 9, 1, false, "", "", 16⟩, ⟨ "Count", 3, 2, false, "", "", 32⟩], 3, 40, [.string .empty, .string .empty, .int .i64 0]⟩
  | 48 => some ⟨.struct #[⟨ "Durable", 9, 0, false, "", "", 0⟩, ⟨ "Pending", 9, 1, false, "", "", 16⟩, ⟨ "Count", 3, 2, false, "", "", 32⟩], 3, 40, [.string .empty, .string .empty, .int .i64 0]⟩
  | 49 => some ⟨.struct #[⟨ "Kitchen", 30, 0, false, "", "", 0⟩, ⟨ "Log", 48, 11, false, "", "", 88⟩], 14, 128, [.int .i64 0, .int .i64 0, .int .i64 0, .int .i64 0, .int .i64 0, .int .i64 0, .int .i64 0, .int .i64 0, .int .i64 0, .int .i64 0, .int .i64 0, .string .empty, .string .empty, .int .i64 0]⟩
  | 50 => some ⟨.struct #[⟨ "Kitchen", 30, 0, false, "", "", 0⟩, ⟨ "Log", 48, 11, false, "", "", 88⟩], 14, 128, [.int .i64 0, .int .i64 0, .int .i64 0, .int .i64 0, .int .i64 0, .int .i64 0, .int .i64 0, .int .i64 0, .int .i64 0, .int .i64 0, .int .i64 0, .string .empty, .string .empty, .int .i64 0]⟩
  | 54 => some ⟨.struct #[⟨ "Command", 9, 0, false, "", "", 0⟩, ⟨ "Reply", 9, 1, false, "", "", 16⟩], 2, 32, [.string .empty, .string .empty]⟩
  | 55 => some ⟨.struct #[⟨ "Command", 9, 0, false, "", "", 0⟩, ⟨ "Reply", 9, 1, false, "", "", 16⟩], 2, 32, [.string .empty, .string .empty]⟩
  | 58 => some ⟨.struct #[⟨ "Command", 9, 0, false, "", "", 0⟩, ⟨ "Reply", 9, 1, false, "", "", 16⟩], 2, 32, [.string .empty, .string .empty]⟩
  | 64 => some ⟨.struct #[⟨ "Minutes", 3, 0, false, "", "", 0⟩, ⟨ "From", 3, 1, false, "", "", 8⟩, ⟨ "To", 3, 2, false, "", "", 16⟩], 3, 24, [.int .i64 0, .int .i64 0, .int .i64 0]⟩
  | 65 => some ⟨.struct #[⟨ "Minutes", 3, 0, false, "", "", 0⟩, ⟨ "From", 3, 1, false, "", "", 8⟩, ⟨ "To", 3, 2, false, "", "", 16⟩], 3, 24, [.int .i64 0, .int .i64 0, .int .i64 0]⟩
  | 67 => some ⟨.struct #[⟨ "Minutes", 3, 0, false, "", "", 0⟩, ⟨ "From", 3, 1, false, "", "", 8⟩, ⟨ "To", 3, 2, false, "", "", 16⟩], 3, 24, [.int .i64 0, .int .i64 0, .int .i64 0]⟩
  | 85 => some ⟨.int .u64, 1, 8, [.int .u64 0]⟩
  | 86 => some ⟨.int .u32, 1, 4, [.int .u32 0]⟩
  | 90 => some ⟨.struct #[⟨ "_interface", 17, 0, false, "", "runtime", 0⟩, ⟨ "concrete", 17, 1, false, "", "runtime", 8⟩, ⟨ "asserted", 17, 2, false, "", "runtime", 16⟩, ⟨ "missingMethod", 9, 3, false, "", "runtime", 24⟩], 4, 40, [.pointer none, .pointer none, .pointer none, .string .empty]⟩
  | 91 => some ⟨.struct #[⟨ "_interface", 17, 0, false, "", "runtime", 0⟩, ⟨ "concrete", 17, 1, false, "", "runtime", 8⟩, ⟨ "asserted", 17, 2, false, "", "runtime", 16⟩, ⟨ "missingMethod", 9, 3, false, "", "runtime", 24⟩], 4, 40, [.pointer none, .pointer none, .pointer none, .string .empty]⟩
  | 96 => some ⟨.int .u8, 1, 1, [.int .u8 0]⟩
  | 97 => some ⟨.int .u8, 1, 1, [.int .u8 0]⟩
  | 99 => some ⟨.pointer 5, 1, 8, [.pointer none]⟩
  | 100 => some ⟨.int .i32, 1, 4, [.int .i32 0]⟩
  | 101 => some ⟨.int .i32, 1, 4, [.int .i32 0]⟩
  | 102 => some ⟨.struct #[⟨ "Size_", 12, 0, false, "", "", 0⟩, ⟨ "PtrBytes", 12, 1, false, "", "", 8⟩, ⟨ "Hash", 86, 2, false, "", "", 16⟩, ⟨ "TFlag", 96, 3, false, "", "", 20⟩, ⟨ "Align_", 5, 4, false, "", "", 21⟩, ⟨ "FieldAlign_", 5, 5, false, "", "", 22⟩, ⟨ "Kind_", 97, 6, false, "", "", 23⟩, ⟨ "Equal", 98, 7, false, "", "", 24⟩, ⟨ "GCData", 99, 8, false, "", "", 32⟩, ⟨ "Str", 100, 9, false, "", "", 40⟩, ⟨ "PtrToThis", 101, 10, false, "", "", 44⟩], 11, 48, [.int .u64 0, .int .u64 0, .int .u32 0, .int .u8 0, .int .u8 0, .int .u8 0, .int .u8 0, .nilFunc, .pointer none, .int .i32 0, .int .i32 0]⟩
  | 103 => some ⟨.struct #[⟨ "Size_", 12, 0, false, "", "", 0⟩, ⟨ "PtrBytes", 12, 1, false, "", "", 8⟩, ⟨ "Hash", 86, 2, false, "", "", 16⟩, ⟨ "TFlag", 96, 3, false, "", "", 20⟩, ⟨ "Align_", 5, 4, false, "", "", 21⟩, ⟨ "FieldAlign_", 5, 5, false, "", "", 22⟩, ⟨ "Kind_", 97, 6, false, "", "", 23⟩, ⟨ "Equal", 98, 7, false, "", "", 24⟩, ⟨ "GCData", 99, 8, false, "", "", 32⟩, ⟨ "Str", 100, 9, false, "", "", 40⟩, ⟨ "PtrToThis", 101, 10, false, "", "", 44⟩], 11, 48, [.int .u64 0, .int .u64 0, .int .u32 0, .int .u8 0, .int .u8 0, .int .u8 0, .int .u8 0, .nilFunc, .pointer none, .int .i32 0, .int .i32 0]⟩
  | 107 => some ⟨.slice 58, 1, 24, [.slice none 0 0]⟩
  | 108 => some ⟨.slice 3, 1, 24, [.slice none 0 0]⟩
  | _ => none

theorem ti2 : (Try.prog.info? 2).map (fun i => (i.size, i.bytes, i.zero.map (·.cells))) = some (1, 8, some ⟨[.int .i64 0]⟩) := by kernel_rfl
theorem ti3 : (Try.prog.info? 3).map (fun i => (i.size, i.bytes, i.zero.map (·.cells))) = some (1, 8, some ⟨[.int .i64 0]⟩) := by kernel_rfl
theorem ti4 : (Try.prog.info? 4).map (fun i => (i.size, i.bytes, i.zero.map (·.cells))) = some (1, 1, some ⟨[.bool false]⟩) := by kernel_rfl
theorem ti5 : (Try.prog.info? 5).map (fun i => (i.size, i.bytes, i.zero.map (·.cells))) = some (1, 1, some ⟨[.int .u8 0]⟩) := by kernel_rfl
theorem ti6 : (Try.prog.info? 6).map (fun i => (i.size, i.bytes, i.zero.map (·.cells))) = some (1, 1, some ⟨[.int .u8 0]⟩) := by kernel_rfl
theorem ti7 : (Try.prog.info? 7).map (fun i => (i.size, i.bytes, i.zero.map (·.cells))) = some (4, 24, some ⟨[.int .i64 0, .int .i64 0, .bool false, .int .u8 0]⟩) := by kernel_rfl
theorem ti8 : (Try.prog.info? 8).map (fun i => (i.size, i.bytes, i.zero.map (·.cells))) = some (4, 24, some ⟨[.int .i64 0, .int .i64 0, .bool false, .int .u8 0]⟩) := by kernel_rfl
theorem ti9 : (Try.prog.info? 9).map (fun i => (i.size, i.bytes, i.zero.map (·.cells))) = some (1, 16, some ⟨[.string .empty]⟩) := by kernel_rfl
theorem ti10 : (Try.prog.info? 10).map (fun i => (i.size, i.bytes, i.zero.map (·.cells))) = some (1, 16, some ⟨[.string .empty]⟩) := by kernel_rfl
theorem ti11 : (Try.prog.info? 11).map (fun i => (i.size, i.bytes, i.zero.map (·.cells))) = some (1, 16, some ⟨[.string .empty]⟩) := by kernel_rfl
theorem ti12 : (Try.prog.info? 12).map (fun i => (i.size, i.bytes, i.zero.map (·.cells))) = some (1, 8, some ⟨[.int .u64 0]⟩) := by kernel_rfl
theorem ti13 : (Try.prog.info? 13).map (fun i => (i.size, i.bytes, i.zero.map (·.cells))) = some (2, 24, some ⟨[.string .empty, .int .u64 0]⟩) := by kernel_rfl
theorem ti14 : (Try.prog.info? 14).map (fun i => (i.size, i.bytes, i.zero.map (·.cells))) = some (2, 24, some ⟨[.string .empty, .int .u64 0]⟩) := by kernel_rfl
theorem ti15 : (Try.prog.info? 15).map (fun i => (i.size, i.bytes, i.zero.map (·.cells))) = some (1, 8, some ⟨[.pointer none]⟩) := by kernel_rfl
theorem ti16 : (Try.prog.info? 16).map (fun i => (i.size, i.bytes, i.zero.map (·.cells))) = some (1, 8, some ⟨[.pointer none]⟩) := by kernel_rfl
theorem ti17 : (Try.prog.info? 17).map (fun i => (i.size, i.bytes, i.zero.map (·.cells))) = some (1, 8, some ⟨[.pointer none]⟩) := by kernel_rfl
theorem ti18 : (Try.prog.info? 18).map (fun i => (i.size, i.bytes, i.zero.map (·.cells))) = some (1, 8, some ⟨[.pointer none]⟩) := by kernel_rfl
theorem ti19 : (Try.prog.info? 19).map (fun i => (i.size, i.bytes, i.zero.map (·.cells))) = some (1, 8, some ⟨[.pointer none]⟩) := by kernel_rfl
theorem ti21 : (Try.prog.info? 21).map (fun i => (i.size, i.bytes, i.zero.map (·.cells))) = some (1, 4, some ⟨[.int .i32 0]⟩) := by kernel_rfl
theorem ti22 : (Try.prog.info? 22).map (fun i => (i.size, i.bytes, i.zero.map (·.cells))) = some (4, 32, some ⟨[.int .i64 0, .int .i64 0, .int .i64 0, .int .i64 0]⟩) := by kernel_rfl
theorem ti23 : (Try.prog.info? 23).map (fun i => (i.size, i.bytes, i.zero.map (·.cells))) = some (4, 32, some ⟨[.int .i64 0, .int .i64 0, .int .i64 0, .int .i64 0]⟩) := by kernel_rfl
theorem ti24 : (Try.prog.info? 24).map (fun i => (i.size, i.bytes, i.zero.map (·.cells))) = some (4, 32, some ⟨[.int .i64 0, .int .i64 0, .int .i64 0, .int .i64 0]⟩) := by kernel_rfl
theorem ti25 : (Try.prog.info? 25).map (fun i => (i.size, i.bytes, i.zero.map (·.cells))) = some (11, 88, some ⟨[.int .i64 0, .int .i64 0, .int .i64 0, .int .i64 0, .int .i64 0, .int .i64 0, .int .i64 0, .int .i64 0, .int .i64 0, .int .i64 0, .int .i64 0]⟩) := by kernel_rfl
theorem ti26 : (Try.prog.info? 26).map (fun i => (i.size, i.bytes, i.zero.map (·.cells))) = some (11, 88, some ⟨[.int .i64 0, .int .i64 0, .int .i64 0, .int .i64 0, .int .i64 0, .int .i64 0, .int .i64 0, .int .i64 0, .int .i64 0, .int .i64 0, .int .i64 0]⟩) := by kernel_rfl
theorem ti28 : (Try.prog.info? 28).map (fun i => (i.size, i.bytes, i.zero.map (·.cells))) = some (4, 32, some ⟨[.int .i64 0, .int .i64 0, .int .i64 0, .int .i64 0]⟩) := by kernel_rfl
theorem ti29 : (Try.prog.info? 29).map (fun i => (i.size, i.bytes, i.zero.map (·.cells))) = some (11, 88, some ⟨[.int .i64 0, .int .i64 0, .int .i64 0, .int .i64 0, .int .i64 0, .int .i64 0, .int .i64 0, .int .i64 0, .int .i64 0, .int .i64 0, .int .i64 0]⟩) := by kernel_rfl
theorem ti30 : (Try.prog.info? 30).map (fun i => (i.size, i.bytes, i.zero.map (·.cells))) = some (11, 88, some ⟨[.int .i64 0, .int .i64 0, .int .i64 0, .int .i64 0, .int .i64 0, .int .i64 0, .int .i64 0, .int .i64 0, .int .i64 0, .int .i64 0, .int .i64 0]⟩) := by kernel_rfl
theorem ti33 : (Try.prog.info? 33).map (fun i => (i.size, i.bytes, i.zero.map (·.cells))) = some (1, 24, some ⟨[.slice none 0 0]⟩) := by kernel_rfl
theorem ti36 : (Try.prog.info? 36).map (fun i => (i.size, i.bytes, i.zero.map (·.cells))) = some (1, 24, some ⟨[.slice none 0 0]⟩) := by kernel_rfl
theorem ti47 : (Try.prog.info? 47).map (fun i => (i.size, i.bytes, i.zero.map (·.cells))) = some (3, 40, some ⟨[.string .empty, .string .empty, .int .i64 0]⟩) := by kernel_rfl
theorem ti48 : (Try.prog.info? 48).map (fun i => (i.size, i.bytes, i.zero.map (·.cells))) = some (3, 40, some ⟨[.string .empty, .string .empty, .int .i64 0]⟩) := by kernel_rfl
theorem ti49 : (Try.prog.info? 49).map (fun i => (i.size, i.bytes, i.zero.map (·.cells))) = some (14, 128, some ⟨[.int .i64 0, .int .i64 0, .int .i64 0, .int .i64 0, .int .i64 0, .int .i64 0, .int .i64 0, .int .i64 0, .int .i64 0, .int .i64 0, .int .i64 0, .string .empty, .string .empty, .int .i64 0]⟩) := by kernel_rfl
theorem ti50 : (Try.prog.info? 50).map (fun i => (i.size, i.bytes, i.zero.map (·.cells))) = some (14, 128, some ⟨[.int .i64 0, .int .i64 0, .int .i64 0, .int .i64 0, .int .i64 0, .int .i64 0, .int .i64 0, .int .i64 0, .int .i64 0, .int .i64 0, .int .i64 0, .string .empty, .string .empty, .int .i64 0]⟩) := by kernel_rfl
theorem ti54 : (Try.prog.info? 54).map (fun i => (i.size, i.bytes, i.zero.map (·.cells))) = some (2, 32, some ⟨[.string .empty, .string .empty]⟩) := by kernel_rfl
theorem ti55 : (Try.prog.info? 55).map (fun i => (i.size, i.bytes, i.zero.map (·.cells))) = some (2, 32, some ⟨[.string .empty, .string .empty]⟩) := by kernel_rfl
theorem ti58 : (Try.prog.info? 58).map (fun i => (i.size, i.bytes, i.zero.map (·.cells))) = some (2, 32, some ⟨[.string .empty, .string .empty]⟩) := by kernel_rfl
theorem ti64 : (Try.prog.info? 64).map (fun i => (i.size, i.bytes, i.zero.map (·.cells))) = some (3, 24, some ⟨[.int .i64 0, .int .i64 0, .int .i64 0]⟩) := by kernel_rfl
theorem ti65 : (Try.prog.info? 65).map (fun i => (i.size, i.bytes, i.zero.map (·.cells))) = some (3, 24, some ⟨[.int .i64 0, .int .i64 0, .int .i64 0]⟩) := by kernel_rfl
theorem ti67 : (Try.prog.info? 67).map (fun i => (i.size, i.bytes, i.zero.map (·.cells))) = some (3, 24, some ⟨[.int .i64 0, .int .i64 0, .int .i64 0]⟩) := by kernel_rfl
theorem ti85 : (Try.prog.info? 85).map (fun i => (i.size, i.bytes, i.zero.map (·.cells))) = some (1, 8, some ⟨[.int .u64 0]⟩) := by kernel_rfl
theorem ti86 : (Try.prog.info? 86).map (fun i => (i.size, i.bytes, i.zero.map (·.cells))) = some (1, 4, some ⟨[.int .u32 0]⟩) := by kernel_rfl
theorem ti90 : (Try.prog.info? 90).map (fun i => (i.size, i.bytes, i.zero.map (·.cells))) = some (4, 40, some ⟨[.pointer none, .pointer none, .pointer none, .string .empty]⟩) := by kernel_rfl
theorem ti91 : (Try.prog.info? 91).map (fun i => (i.size, i.bytes, i.zero.map (·.cells))) = some (4, 40, some ⟨[.pointer none, .pointer none, .pointer none, .string .empty]⟩) := by kernel_rfl
theorem ti96 : (Try.prog.info? 96).map (fun i => (i.size, i.bytes, i.zero.map (·.cells))) = some (1, 1, some ⟨[.int .u8 0]⟩) := by kernel_rfl
theorem ti97 : (Try.prog.info? 97).map (fun i => (i.size, i.bytes, i.zero.map (·.cells))) = some (1, 1, some ⟨[.int .u8 0]⟩) := by kernel_rfl
theorem ti99 : (Try.prog.info? 99).map (fun i => (i.size, i.bytes, i.zero.map (·.cells))) = some (1, 8, some ⟨[.pointer none]⟩) := by kernel_rfl
theorem ti100 : (Try.prog.info? 100).map (fun i => (i.size, i.bytes, i.zero.map (·.cells))) = some (1, 4, some ⟨[.int .i32 0]⟩) := by kernel_rfl
theorem ti101 : (Try.prog.info? 101).map (fun i => (i.size, i.bytes, i.zero.map (·.cells))) = some (1, 4, some ⟨[.int .i32 0]⟩) := by kernel_rfl
theorem ti102 : (Try.prog.info? 102).map (fun i => (i.size, i.bytes, i.zero.map (·.cells))) = some (11, 48, some ⟨[.int .u64 0, .int .u64 0, .int .u32 0, .int .u8 0, .int .u8 0, .int .u8 0, .int .u8 0, .nilFunc, .pointer none, .int .i32 0, .int .i32 0]⟩) := by kernel_rfl
theorem ti103 : (Try.prog.info? 103).map (fun i => (i.size, i.bytes, i.zero.map (·.cells))) = some (11, 48, some ⟨[.int .u64 0, .int .u64 0, .int .u32 0, .int .u8 0, .int .u8 0, .int .u8 0, .int .u8 0, .nilFunc, .pointer none, .int .i32 0, .int .i32 0]⟩) := by kernel_rfl
theorem ti107 : (Try.prog.info? 107).map (fun i => (i.size, i.bytes, i.zero.map (·.cells))) = some (1, 24, some ⟨[.slice none 0 0]⟩) := by kernel_rfl
theorem ti108 : (Try.prog.info? 108).map (fun i => (i.size, i.bytes, i.zero.map (·.cells))) = some (1, 24, some ⟨[.slice none 0 0]⟩) := by kernel_rfl

theorem tok_of {t s b : Nat} {d : TypeDesc} {z : List Value} (h1 : Try.prog.underlying t = some d) (h2 : (Try.prog.info? t).map (fun i => (i.size, i.bytes, i.zero.map (·.cells))) = some (s, b, some ⟨z⟩)) (h3 : z.length = s) (h4 : z.all flat0 = true) :
    Try.prog.underlying t = some d ∧ ∃ i, Try.prog.info? t = some i ∧ i.size = s ∧ i.bytes = b ∧ (∃ v, i.zero = some v ∧ v.cells = ⟨z⟩) ∧ z.length = s ∧ z.all flat0 = true := by
  refine ⟨h1, ?_⟩
  cases e : Try.prog.info? t with
  | none => rw [e] at h2; cases h2
  | some i =>
    rw [e] at h2
    simp only [Option.map_some, Option.some.injEq, Prod.mk.injEq] at h2
    refine ⟨i, rfl, h2.1, h2.2.1, ?_, h3, h4⟩
    cases e2 : i.zero with
    | none => rw [e2] at h2; cases h2.2.2
    | some v => rw [e2] at h2; exact ⟨v, rfl, Option.some.inj h2.2.2⟩

theorem T_ok : TOk Try.prog T := by
  intro t ti h
  unfold T at h
  split at h
  · obtain rfl := Option.some.inj h; exact tok_of Try.underlying2 ti2 rfl rfl
  · obtain rfl := Option.some.inj h; exact tok_of Try.underlying3 ti3 rfl rfl
  · obtain rfl := Option.some.inj h; exact tok_of Try.underlying4 ti4 rfl rfl
  · obtain rfl := Option.some.inj h; exact tok_of Try.underlying5 ti5 rfl rfl
  · obtain rfl := Option.some.inj h; exact tok_of Try.underlying6 ti6 rfl rfl
  · obtain rfl := Option.some.inj h; exact tok_of Try.underlying7 ti7 rfl rfl
  · obtain rfl := Option.some.inj h; exact tok_of Try.underlying8 ti8 rfl rfl
  · obtain rfl := Option.some.inj h; exact tok_of Try.underlying9 ti9 rfl rfl
  · obtain rfl := Option.some.inj h; exact tok_of Try.underlying10 ti10 rfl rfl
  · obtain rfl := Option.some.inj h; exact tok_of Try.underlying11 ti11 rfl rfl
  · obtain rfl := Option.some.inj h; exact tok_of Try.underlying12 ti12 rfl rfl
  · obtain rfl := Option.some.inj h; exact tok_of Try.underlying13 ti13 rfl rfl
  · obtain rfl := Option.some.inj h; exact tok_of Try.underlying14 ti14 rfl rfl
  · obtain rfl := Option.some.inj h; exact tok_of Try.underlying15 ti15 rfl rfl
  · obtain rfl := Option.some.inj h; exact tok_of Try.underlying16 ti16 rfl rfl
  · obtain rfl := Option.some.inj h; exact tok_of Try.underlying17 ti17 rfl rfl
  · obtain rfl := Option.some.inj h; exact tok_of Try.underlying18 ti18 rfl rfl
  · obtain rfl := Option.some.inj h; exact tok_of Try.underlying19 ti19 rfl rfl
  · obtain rfl := Option.some.inj h; exact tok_of Try.underlying21 ti21 rfl rfl
  · obtain rfl := Option.some.inj h; exact tok_of Try.underlying22 ti22 rfl rfl
  · obtain rfl := Option.some.inj h; exact tok_of Try.underlying23 ti23 rfl rfl
  · obtain rfl := Option.some.inj h; exact tok_of Try.underlying24 ti24 rfl rfl
  · obtain rfl := Option.some.inj h; exact tok_of Try.underlying25 ti25 rfl rfl
  · obtain rfl := Option.some.inj h; exact tok_of Try.underlying26 ti26 rfl rfl
  · obtain rfl := Option.some.inj h; exact tok_of Try.underlying28 ti28 rfl rfl
  · obtain rfl := Option.some.inj h; exact tok_of Try.underlying29 ti29 rfl rfl
  · obtain rfl := Option.some.inj h; exact tok_of Try.underlying30 ti30 rfl rfl
  · obtain rfl := Option.some.inj h; exact tok_of Try.underlying33 ti33 rfl rfl
  · obtain rfl := Option.some.inj h; exact tok_of Try.underlying36 ti36 rfl rfl
  · obtain rfl := Option.some.inj h; exact tok_of Try.underlying47 ti47 rfl rfl
  · obtain rfl := Option.some.inj h; exact tok_of Try.underlying48 ti48 rfl rfl
  · obtain rfl := Option.some.inj h; exact tok_of Try.underlying49 ti49 rfl rfl
  · obtain rfl := Option.some.inj h; exact tok_of Try.underlying50 ti50 rfl rfl
  · obtain rfl := Option.some.inj h; exact tok_of Try.underlying54 ti54 rfl rfl
  · obtain rfl := Option.some.inj h; exact tok_of Try.underlying55 ti55 rfl rfl
  · obtain rfl := Option.some.inj h; exact tok_of Try.underlying58 ti58 rfl rfl
  · obtain rfl := Option.some.inj h; exact tok_of Try.underlying64 ti64 rfl rfl
  · obtain rfl := Option.some.inj h; exact tok_of Try.underlying65 ti65 rfl rfl
  · obtain rfl := Option.some.inj h; exact tok_of Try.underlying67 ti67 rfl rfl
  · obtain rfl := Option.some.inj h; exact tok_of Try.underlying85 ti85 rfl rfl
  · obtain rfl := Option.some.inj h; exact tok_of Try.underlying86 ti86 rfl rfl
  · obtain rfl := Option.some.inj h; exact tok_of Try.underlying90 ti90 rfl rfl
  · obtain rfl := Option.some.inj h; exact tok_of Try.underlying91 ti91 rfl rfl
  · obtain rfl := Option.some.inj h; exact tok_of Try.underlying96 ti96 rfl rfl
  · obtain rfl := Option.some.inj h; exact tok_of Try.underlying97 ti97 rfl rfl
  · obtain rfl := Option.some.inj h; exact tok_of Try.underlying99 ti99 rfl rfl
  · obtain rfl := Option.some.inj h; exact tok_of Try.underlying100 ti100 rfl rfl
  · obtain rfl := Option.some.inj h; exact tok_of Try.underlying101 ti101 rfl rfl
  · obtain rfl := Option.some.inj h; exact tok_of Try.underlying102 ti102 rfl rfl
  · obtain rfl := Option.some.inj h; exact tok_of Try.underlying103 ti103 rfl rfl
  · obtain rfl := Option.some.inj h; exact tok_of Try.underlying107 ti107 rfl rfl
  · obtain rfl := Option.some.inj h; exact tok_of Try.underlying108 ti108 rfl rfl
  · cases h

theorem mixed : Try.prog.follows .mixedOrders = true := by kernel_rfl
abbrev env (N : Nat) (l : List (Ent Try.prog)) : Env := mkEnv Try.prog T N l
theorem env_ok {N : Nat} {l : List (Ent Try.prog)} : EnvOk Try.prog (env N l) := mkEnv_ok T_ok mixed
theorem Try.own : ownKnob Try.prog.godebug = none := by kernel_rfl
theorem Try.laidOut : laidOutB Try.prog = true := by kernel_rfl
end Go.Proofs.Ytjnolfmmlnnoeaa
