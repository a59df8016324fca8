/- The table of the types of this program, and that it is right; no condition. -/
import Derived.Test.YtmmjhebplflabaaEng16
import Derived.Test.YtmmjhebplflabaaProg
namespace Go.Proofs.Ytmmjhebplflabaa
open Go Go.Eng
def y2 : TI := ⟨.int .i64, 1, 8, [.int .i64 0], []⟩
@[simp] theorem y2_s : y2.size = 1 := rfl
@[simp] theorem y2_b : y2.bytes = 8 := rfl
def y3 : TI := ⟨.int .i64, 1, 8, [.int .i64 0], []⟩
@[simp] theorem y3_s : y3.size = 1 := rfl
@[simp] theorem y3_b : y3.bytes = 8 := rfl
def y4 : TI := ⟨.bool, 1, 1, [.bool false], []⟩
@[simp] theorem y4_s : y4.size = 1 := rfl
@[simp] theorem y4_b : y4.bytes = 1 := rfl
def y5 : TI := ⟨.int .u8, 1, 1, [.int .u8 0], []⟩
@[simp] theorem y5_s : y5.size = 1 := rfl
@[simp] theorem y5_b : y5.bytes = 1 := rfl
def y6 : TI := ⟨.int .u8, 1, 1, [.int .u8 0], []⟩
@[simp] theorem y6_s : y6.size = 1 := rfl
@[simp] theorem y6_b : y6.bytes = 1 := rfl
def y7 : TI := ⟨.struct #[⟨ "x", 2, 0, false, "", "runtime", 0⟩, ⟨ "y", 3, 1, false, "", "runtime", 8⟩, ⟨ "signed", 4, 2, false, "", "runtime", 16⟩, ⟨ "code", 6, 3, false, "", "runtime", 17⟩], 4, 24, [.int .i64 0, .int .i64 0, .bool false, .int .u8 0], []⟩
@[simp] theorem y7_s : y7.size = 4 := rfl
@[simp] theorem y7_b : y7.bytes = 24 := rfl
def y8 : TI := ⟨.struct #[⟨ "x", 2, 0, false, "", "runtime", 0⟩, ⟨ "y", 3, 1, false, "", "runtime", 8⟩, ⟨ "signed", 4, 2, false, "", "runtime", 16⟩, ⟨ "code", 6, 3, false, "", "runtime", 17⟩], 4, 24, [.int .i64 0, .int .i64 0, .bool false, .int .u8 0], []⟩
@[simp] theorem y8_s : y8.size = 4 := rfl
@[simp] theorem y8_b : y8.bytes = 24 := rfl
def y9 : TI := ⟨.string, 1, 16, [.string .empty], []⟩
@[simp] theorem y9_s : y9.size = 1 := rfl
@[simp] theorem y9_b : y9.bytes = 16 := rfl
def y10 : TI := ⟨.string, 1, 16, [.string .empty], []⟩
@[simp] theorem y10_s : y10.size = 1 := rfl
@[simp] theorem y10_b : y10.bytes = 16 := rfl
def y11 : TI := ⟨.string, 1, 16, [.string .empty], []⟩
@[simp] theorem y11_s : y11.size = 1 := rfl
@[simp] theorem y11_b : y11.bytes = 16 := rfl
def y12 : TI := ⟨.int .u64, 1, 8, [.int .u64 0], []⟩
@[simp] theorem y12_s : y12.size = 1 := rfl
@[simp] theorem y12_b : y12.bytes = 8 := rfl
def y13 : TI := ⟨.struct #[⟨ "msg", 9, 0, false, "", "runtime", 0⟩, ⟨ "addr", 12, 1, false, "", "runtime", 16⟩], 2, 24, [.string .empty, .int .u64 0], []⟩
@[simp] theorem y13_s : y13.size = 2 := rfl
@[simp] theorem y13_b : y13.bytes = 24 := rfl
def y14 : TI := ⟨.struct #[⟨ "msg", 9, 0, false, "", "runtime", 0⟩, ⟨ "addr", 12, 1, false, "", "runtime", 16⟩], 2, 24, [.string .empty, .int .u64 0], []⟩
@[simp] theorem y14_s : y14.size = 2 := rfl
@[simp] theorem y14_b : y14.bytes = 24 := rfl
def y15 : TI := ⟨.pointer 139, 1, 8, [.pointer none], []⟩
@[simp] theorem y15_s : y15.size = 1 := rfl
@[simp] theorem y15_b : y15.bytes = 8 := rfl
def y16 : TI := ⟨.pointer 142, 1, 8, [.pointer none], []⟩
@[simp] theorem y16_s : y16.size = 1 := rfl
@[simp] theorem y16_b : y16.bytes = 8 := rfl
def y17 : TI := ⟨.pointer 151, 1, 8, [.pointer none], []⟩
@[simp] theorem y17_s : y17.size = 1 := rfl
@[simp] theorem y17_b : y17.bytes = 8 := rfl
def y18 : TI := ⟨.struct #[⟨ "typ", 17, 0, false, "", "internal/runtime/maps", 0⟩], 1, 8, [.pointer none], []⟩
@[simp] theorem y18_s : y18.size = 1 := rfl
@[simp] theorem y18_b : y18.bytes = 8 := rfl
def y19 : TI := ⟨.struct #[⟨ "typ", 17, 0, false, "", "internal/runtime/maps", 0⟩], 1, 8, [.pointer none], []⟩
@[simp] theorem y19_s : y19.size = 1 := rfl
@[simp] theorem y19_b : y19.bytes = 8 := rfl
def y21 : TI := ⟨.int .i32, 1, 4, [.int .i32 0], []⟩
@[simp] theorem y21_s : y21.size = 1 := rfl
@[simp] theorem y21_b : y21.bytes = 4 := rfl
def y22 : TI := ⟨.array 4 3, 4, 32, [.int .i64 0, .int .i64 0, .int .i64 0, .int .i64 0], [.int .i64, .int .i64, .int .i64, .int .i64]⟩
@[simp] theorem y22_s : y22.size = 4 := rfl
@[simp] theorem y22_b : y22.bytes = 32 := rfl
def y23 : TI := ⟨.struct #[⟨ "Glasses", 22, 0, false, "", "", 0⟩], 4, 32, [.int .i64 0, .int .i64 0, .int .i64 0, .int .i64 0], [.int .i64, .int .i64, .int .i64, .int .i64]⟩
@[simp] theorem y23_s : y23.size = 4 := rfl
@[simp] theorem y23_b : y23.bytes = 32 := rfl
def y24 : TI := ⟨.struct #[⟨ "Glasses", 22, 0, false, "", "", 0⟩], 4, 32, [.int .i64 0, .int .i64 0, .int .i64 0, .int .i64 0], [.int .i64, .int .i64, .int .i64, .int .i64]⟩
@[simp] theorem y24_s : y24.size = 4 := rfl
@[simp] theorem y24_b : y24.bytes = 32 := rfl
def y25 : TI := ⟨.struct #[⟨ "Kit", 24, 0, false, "", "", 0⟩, ⟨ "Sand", 22, 4, false, "", "", 32⟩, ⟨ "Clock", 3, 8, false, "", "", 64⟩, ⟨ "Mark", 3, 9, false, "", "", 72⟩, ⟨ "Count", 3, 10, false, "", "", 80⟩], 11, 88, [.int .i64 0, .int .i64 0, .int .i64 0, .int .i64 0, .int .i64 0, .int .i64 0, .int .i64 0, .int .i64 0, .int .i64 0, .int .i64 0, .int .i64 0], [.int .i64, .int .i64, .int .i64, .int .i64, .int .i64, .int .i64, .int .i64, .int .i64, .int .i64, .int .i64, .int .i64]⟩
@[simp] theorem y25_s : y25.size = 11 := rfl
@[simp] theorem y25_b : y25.bytes = 88 := rfl
def y26 : TI := ⟨.struct #[⟨ "Kit", 24, 0, false, "", "", 0⟩, ⟨ "Sand", 22, 4, false, "", "", 32⟩, ⟨ "Clock", 3, 8, false, "", "", 64⟩, ⟨ "Mark", 3, 9, false, "", "", 72⟩, ⟨ "Count", 3, 10, false, "", "", 80⟩], 11, 88, [.int .i64 0, .int .i64 0, .int .i64 0, .int .i64 0, .int .i64 0, .int .i64 0, .int .i64 0, .int .i64 0, .int .i64 0, .int .i64 0, .int .i64 0], [.int .i64, .int .i64, .int .i64, .int .i64, .int .i64, .int .i64, .int .i64, .int .i64, .int .i64, .int .i64, .int .i64]⟩
@[simp] theorem y26_s : y26.size = 11 := rfl
@[simp] theorem y26_b : y26.bytes = 88 := rfl
def y27 : TI := ⟨.struct #[⟨ "Kind", 3, 0, false, "", "", 0⟩, ⟨ "A", 3, 1, false, "", "", 8⟩, ⟨ "B", 3, 2, false, "", "", 16⟩], 3, 24, [.int .i64 0, .int .i64 0, .int .i64 0], [.int .i64, .int .i64, .int .i64]⟩
@[simp] theorem y27_s : y27.size = 3 := rfl
@[simp] theorem y27_b : y27.bytes = 24 := rfl
def y28 : TI := ⟨.struct #[⟨ "Kind", 3, 0, false, "", "", 0⟩, ⟨ "A", 3, 1, false, "", "", 8⟩, ⟨ "B", 3, 2, false, "", "", 16⟩], 3, 24, [.int .i64 0, .int .i64 0, .int .i64 0], [.int .i64, .int .i64, .int .i64]⟩
@[simp] theorem y28_s : y28.size = 3 := rfl
@[simp] theorem y28_b : y28.bytes = 24 := rfl
def y29 : TI := ⟨.struct #[⟨ "Glasses", 22, 0, false, "", "", 0⟩], 4, 32, [.int .i64 0, .int .i64 0, .int .i64 0, .int .i64 0], [.int .i64, .int .i64, .int .i64, .int .i64]⟩
@[simp] theorem y29_s : y29.size = 4 := rfl
@[simp] theorem y29_b : y29.bytes = 32 := rfl
def y30 : TI := ⟨.struct #[⟨ "Kit", 29, 0, false, "", "", 0⟩, ⟨ "Sand", 22, 4, false, "", "", 32⟩, ⟨ "Clock", 3, 8, false, "", "", 64⟩, ⟨ "Mark", 3, 9, false, "", "", 72⟩, ⟨ "Count", 3, 10, false, "", "", 80⟩], 11, 88, [.int .i64 0, .int .i64 0, .int .i64 0, .int .i64 0, .int .i64 0, .int .i64 0, .int .i64 0, .int .i64 0, .int .i64 0, .int .i64 0, .int .i64 0], [.int .i64, .int .i64, .int .i64, .int .i64, .int .i64, .int .i64, .int .i64, .int .i64, .int .i64, .int .i64, .int .i64]⟩
@[simp] theorem y30_s : y30.size = 11 := rfl
@[simp] theorem y30_b : y30.bytes = 88 := rfl
def y31 : TI := ⟨.struct #[⟨ "Kit", 29, 0, false, "", "", 0⟩, ⟨ "Sand", 22, 4, false, "", "", 32⟩, ⟨ "Clock", 3, 8, false, "", "", 64⟩, ⟨ "Mark", 3, 9, false, "", "", 72⟩, ⟨ "Count", 3, 10, false, "", "", 80⟩], 11, 88, [.int .i64 0, .int .i64 0, .int .i64 0, .int .i64 0, .int .i64 0, .int .i64 0, .int .i64 0, .int .i64 0, .int .i64 0, .int .i64 0, .int .i64 0], [.int .i64, .int .i64, .int .i64, .int .i64, .int .i64, .int .i64, .int .i64, .int .i64, .int .i64, .int .i64, .int .i64]⟩
@[simp] theorem y31_s : y31.size = 11 := rfl
@[simp] theorem y31_b : y31.bytes = 88 := rfl
def y35 : TI := ⟨.struct #[⟨ "Kind", 3, 0, false, "", "", 0⟩, ⟨ "A", 3, 1, false, "", "", 8⟩, ⟨ "B", 3, 2, false, "", "", 16⟩], 3, 24, [.int .i64 0, .int .i64 0, .int .i64 0], [.int .i64, .int .i64, .int .i64]⟩
@[simp] theorem y35_s : y35.size = 3 := rfl
@[simp] theorem y35_b : y35.bytes = 24 := rfl
def y39 : TI := ⟨.slice 28, 1, 24, [.slice none 0 0], []⟩
@[simp] theorem y39_s : y39.size = 1 := rfl
@[simp] theorem y39_b : y39.bytes = 24 := rfl
def y43 : TI := ⟨.slice 35, 1, 24, [.slice none 0 0], []⟩
@[simp] theorem y43_s : y43.size = 1 := rfl
@[simp] theorem y43_b : y43.bytes = 24 := rfl
def y47 : TI := ⟨.slice 3, 1, 24, [.slice none 0 0], []⟩
@[simp] theorem y47_s : y47.size = 1 := rfl
@[simp] theorem y47_b : y47.bytes = 24 := rfl
def y61 : TI := ⟨.slice 105, 1, 24, [.slice none 0 0], []⟩
@[simp] theorem y61_s : y61.size = 1 := rfl
@[simp] theorem y61_b : y61.bytes = 24 := rfl
def y66 : TI := ⟨.slice 111, 1, 24, [.slice none 0 0], []⟩
@[simp] theorem y66_s : y66.size = 1 := rfl
@[simp] theorem y66_b : y66.bytes = 24 := rfl
def y71 : TI := ⟨.struct #[⟨ "Minutes", 3, 0, false, "", "", 0⟩, ⟨ "From", 3, 1, false, "", "", 8⟩, ⟨ "To", 3, 2, false, "", "", 16⟩], 3, 24, [.int .i64 0, .int .i64 0, .int .i64 0], [.int .i64, .int .i64, .int .i64]⟩
@[simp] theorem y71_s : y71.size = 3 := rfl
@[simp] theorem y71_b : y71.bytes = 24 := rfl
def y72 : TI := ⟨.struct #[⟨ "Minutes", 3, 0, false, "", "", 0⟩, ⟨ "From", 3, 1, false, "", "", 8⟩, ⟨ "To", 3, 2, false, "", "", 16⟩], 3, 24, [.int .i64 0, .int .i64 0, .int .i64 0], [.int .i64, .int .i64, .int .i64]⟩
@[simp] theorem y72_s : y72.size = 3 := rfl
@[simp] theorem y72_b : y72.bytes = 24 := rfl
def y74 : TI := ⟨.struct #[⟨ "Minutes", 3, 0, false, "", "", 0⟩, ⟨ "From", 3, 1, false, "", "", 8⟩, ⟨ "To", 3, 2, false, "", "", 16⟩], 3, 24, [.int .i64 0, .int .i64 0, .int .i64 0], [.int .i64, .int .i64, .int .i64]⟩
@[simp] theorem y74_s : y74.size = 3 := rfl
@[simp] theorem y74_b : y74.bytes = 24 := rfl
def y104 : TI := ⟨.struct #[⟨ "Time", 3, 0, false, "", "", 0⟩, ⟨ "Sand", 22, 1, false, "", "", 8⟩, ⟨ "Set", 3, 5, false, "", "", 40⟩], 6, 48, [.int .i64 0, .int .i64 0, .int .i64 0, .int .i64 0, .int .i64 0, .int .i64 0], [.int .i64, .int .i64, .int .i64, .int .i64, .int .i64, .int .i64]⟩
@[simp] theorem y104_s : y104.size = 6 := rfl
@[simp] theorem y104_b : y104.bytes = 48 := rfl
def y105 : TI := ⟨.struct #[⟨ "Time", 3, 0, false, "", "", 0⟩, ⟨ "Sand", 22, 1, false, "", "", 8⟩, ⟨ "Set", 3, 5, false, "", "", 40⟩], 6, 48, [.int .i64 0, .int .i64 0, .int .i64 0, .int .i64 0, .int .i64 0, .int .i64 0], [.int .i64, .int .i64, .int .i64, .int .i64, .int .i64, .int .i64]⟩
@[simp] theorem y105_s : y105.size = 6 := rfl
@[simp] theorem y105_b : y105.bytes = 48 := rfl
def y111 : TI := ⟨.struct #[⟨ "Time", 3, 0, false, "", "", 0⟩, ⟨ "Sand", 22, 1, false, "", "", 8⟩, ⟨ "Set", 3, 5, false, "", "", 40⟩], 6, 48, [.int .i64 0, .int .i64 0, .int .i64 0, .int .i64 0, .int .i64 0, .int .i64 0], [.int .i64, .int .i64, .int .i64, .int .i64, .int .i64, .int .i64]⟩
@[simp] theorem y111_s : y111.size = 6 := rfl
@[simp] theorem y111_b : y111.bytes = 48 := rfl
def y119 : TI := ⟨.slice 47, 1, 24, [.slice none 0 0], []⟩
@[simp] theorem y119_s : y119.size = 1 := rfl
@[simp] theorem y119_b : y119.bytes = 24 := rfl
def y128 : TI := ⟨.slice 74, 1, 24, [.slice none 0 0], []⟩
@[simp] theorem y128_s : y128.size = 1 := rfl
@[simp] theorem y128_b : y128.bytes = 24 := rfl
def y138 : TI := ⟨.struct #[⟨ "_interface", 17, 0, false, "", "runtime", 0⟩, ⟨ "concrete", 17, 1, false, "", "runtime", 8⟩, ⟨ "asserted", 17, 2, false, "", "runtime", 16⟩, ⟨ "missingMethod", 9, 3, false, "", "runtime", 24⟩], 4, 40, [.pointer none, .pointer none, .pointer none, .string .empty], []⟩
@[simp] theorem y138_s : y138.size = 4 := rfl
@[simp] theorem y138_b : y138.bytes = 40 := rfl
def y139 : TI := ⟨.struct #[⟨ "_interface", 17, 0, false, "", "runtime", 0⟩, ⟨ "concrete", 17, 1, false, "", "runtime", 8⟩, ⟨ "asserted", 17, 2, false, "", "runtime", 16⟩, ⟨ "missingMethod", 9, 3, false, "", "runtime", 24⟩], 4, 40, [.pointer none, .pointer none, .pointer none, .string .empty], []⟩
@[simp] theorem y139_s : y139.size = 4 := rfl
@[simp] theorem y139_b : y139.bytes = 40 := rfl
def y143 : TI := ⟨.int .u32, 1, 4, [.int .u32 0], []⟩
@[simp] theorem y143_s : y143.size = 1 := rfl
@[simp] theorem y143_b : y143.bytes = 4 := rfl
def y144 : TI := ⟨.int .u8, 1, 1, [.int .u8 0], []⟩
@[simp] theorem y144_s : y144.size = 1 := rfl
@[simp] theorem y144_b : y144.bytes = 1 := rfl
def y145 : TI := ⟨.int .u8, 1, 1, [.int .u8 0], []⟩
@[simp] theorem y145_s : y145.size = 1 := rfl
@[simp] theorem y145_b : y145.bytes = 1 := rfl
def y147 : TI := ⟨.pointer 5, 1, 8, [.pointer none], []⟩
@[simp] theorem y147_s : y147.size = 1 := rfl
@[simp] theorem y147_b : y147.bytes = 8 := rfl
def y148 : TI := ⟨.int .i32, 1, 4, [.int .i32 0], []⟩
@[simp] theorem y148_s : y148.size = 1 := rfl
@[simp] theorem y148_b : y148.bytes = 4 := rfl
def y149 : TI := ⟨.int .i32, 1, 4, [.int .i32 0], []⟩
@[simp] theorem y149_s : y149.size = 1 := rfl
@[simp] theorem y149_b : y149.bytes = 4 := rfl
def y150 : TI := ⟨.struct #[⟨ "Size_", 12, 0, false, "", "", 0⟩, ⟨ "PtrBytes", 12, 1, false, "", "", 8⟩, ⟨ "Hash", 143, 2, false, "", "", 16⟩, ⟨ "TFlag", 144, 3, false, "", "", 20⟩, ⟨ "Align_", 5, 4, false, "", "", 21⟩, ⟨ "FieldAlign_", 5, 5, false, "", "", 22⟩, ⟨ "Kind_", 145, 6, false, "", "", 23⟩, ⟨ "Equal", 146, 7, false, "", "", 24⟩, ⟨ "GCData", 147, 8, false, "", "", 32⟩, ⟨ "Str", 148, 9, false, "", "", 40⟩, ⟨ "PtrToThis", 149, 10, false, "", "", 44⟩], 11, 48, [.int .u64 0, .int .u64 0, .int .u32 0, .int .u8 0, .int .u8 0, .int .u8 0, .int .u8 0, .nilFunc, .pointer none, .int .i32 0, .int .i32 0], []⟩
@[simp] theorem y150_s : y150.size = 11 := rfl
@[simp] theorem y150_b : y150.bytes = 48 := rfl
def y151 : TI := ⟨.struct #[⟨ "Size_", 12, 0, false, "", "", 0⟩, ⟨ "PtrBytes", 12, 1, false, "", "", 8⟩, ⟨ "Hash", 143, 2, false, "", "", 16⟩, ⟨ "TFlag", 144, 3, false, "", "", 20⟩, ⟨ "Align_", 5, 4, false, "", "", 21⟩, ⟨ "FieldAlign_", 5, 5, false, "", "", 22⟩, ⟨ "Kind_", 145, 6, false, "", "", 23⟩, ⟨ "Equal", 146, 7, false, "", "", 24⟩, ⟨ "GCData", 147, 8, false, "", "", 32⟩, ⟨ "Str", 148, 9, false, "", "", 40⟩, ⟨ "PtrToThis", 149, 10, false, "", "", 44⟩], 11, 48, [.int .u64 0, .int .u64 0, .int .u32 0, .int .u8 0, .int .u8 0, .int .u8 0, .int .u8 0, .nilFunc, .pointer none, .int .i32 0, .int .i32 0], []⟩
@[simp] theorem y151_s : y151.size = 11 := rfl
@[simp] theorem y151_b : y151.bytes = 48 := rfl
def T : TT := fun t => match t with
  | 2 => some y2
  | 3 => some y3
  | 4 => some y4
  | 5 => some y5
  | 6 => some y6
  | 7 => some y7
  | 8 => some y8
  | 9 => some y9
  | 10 => some y10
  | 11 => some y11
  | 12 => some y12
  | 13 => some y13
  | 14 => some y14
  | 15 => some y15
  | 16 => some y16
  | 17 => some y17
  | 18 => some y18
  | 19 => some y19
  | 21 => some y21
  | 22 => some y22
  | 23 => some y23
  | 24 => some y24
  | 25 => some y25
  | 26 => some y26
  | 27 => some y27
  | 28 => some y28
  | 29 => some y29
  | 30 => some y30
  | 31 => some y31
  | 35 => some y35
  | 39 => some y39
  | 43 => some y43
  | 47 => some y47
  | 61 => some y61
  | 66 => some y66
  | 71 => some y71
  | 72 => some y72
  | 74 => some y74
  | 104 => some y104
  | 105 => some y105
  | 111 => some y111
  | 119 => some y119
  | 128 => some y128
  | 138 => some y138
  | 139 => some y139
  | 143 => some y143
  | 144 => some y144
  | 145 => some y145
  | 147 => some y147
  | 148 => some y148
  | 149 => some y149
  | 150 => some y150
  | 151 => some y151
  | _ => none

theorem ti2 : (Try.prog.info? 2).map (fun i => (i.size, i.bytes, i.zero.map (·.cells))) = some (1, 8, some ⟨[.int .i64 0]⟩) := by kernel_rfl
theorem ti3 : (Try.prog.info? 3).map (fun i => (i.size, i.bytes, i.zero.map (·.cells))) = some (1, 8, some ⟨[.int .i64 0]⟩) := by kernel_rfl
theorem ti4 : (Try.prog.info? 4).map (fun i => (i.size, i.bytes, i.zero.map (·.cells))) = some (1, 1, some ⟨[.bool false]⟩) := by kernel_rfl
theorem ti5 : (Try.prog.info? 5).map (fun i => (i.size, i.bytes, i.zero.map (·.cells))) = some (1, 1, some ⟨[.int .u8 0]⟩) := by kernel_rfl
theorem ti6 : (Try.prog.info? 6).map (fun i => (i.size, i.bytes, i.zero.map (·.cells))) = some (1, 1, some ⟨[.int .u8 0]⟩) := by kernel_rfl
theorem ti7 : (Try.prog.info? 7).map (fun i => (i.size, i.bytes, i.zero.map (·.cells))) = some (4, 24, some ⟨[.int .i64 0, .int .i64 0, .bool false, .int .u8 0]⟩) := by kernel_rfl
theorem ti8 : (Try.prog.info? 8).map (fun i => (i.size, i.bytes, i.zero.map (·.cells))) = some (4, 24, some ⟨[.int .i64 0, .int .i64 0, .bool false, .int .u8 0]⟩) := by kernel_rfl
theorem ti9 : (Try.prog.info? 9).map (fun i => (i.size, i.bytes, i.zero.map (·.cells))) = some (1, 16, some ⟨[.string .empty]⟩) := by kernel_rfl
theorem ti10 : (Try.prog.info? 10).map (fun i => (i.size, i.bytes, i.zero.map (·.cells))) = some (1, 16, some ⟨[.string .empty]⟩) := by kernel_rfl
theorem ti11 : (Try.prog.info? 11).map (fun i => (i.size, i.bytes, i.zero.map (·.cells))) = some (1, 16, some ⟨[.string .empty]⟩) := by kernel_rfl
theorem ti12 : (Try.prog.info? 12).map (fun i => (i.size, i.bytes, i.zero.map (·.cells))) = some (1, 8, some ⟨[.int .u64 0]⟩) := by kernel_rfl
theorem ti13 : (Try.prog.info? 13).map (fun i => (i.size, i.bytes, i.zero.map (·.cells))) = some (2, 24, some ⟨[.string .empty, .int .u64 0]⟩) := by kernel_rfl
theorem ti14 : (Try.prog.info? 14).map (fun i => (i.size, i.bytes, i.zero.map (·.cells))) = some (2, 24, some ⟨[.string .empty, .int .u64 0]⟩) := by kernel_rfl
theorem ti15 : (Try.prog.info? 15).map (fun i => (i.size, i.bytes, i.zero.map (·.cells))) = some (1, 8, some ⟨[.pointer none]⟩) := by kernel_rfl
theorem ti16 : (Try.prog.info? 16).map (fun i => (i.size, i.bytes, i.zero.map (·.cells))) = some (1, 8, some ⟨[.pointer none]⟩) := by kernel_rfl
theorem ti17 : (Try.prog.info? 17).map (fun i => (i.size, i.bytes, i.zero.map (·.cells))) = some (1, 8, some ⟨[.pointer none]⟩) := by kernel_rfl
theorem ti18 : (Try.prog.info? 18).map (fun i => (i.size, i.bytes, i.zero.map (·.cells))) = some (1, 8, some ⟨[.pointer none]⟩) := by kernel_rfl
theorem ti19 : (Try.prog.info? 19).map (fun i => (i.size, i.bytes, i.zero.map (·.cells))) = some (1, 8, some ⟨[.pointer none]⟩) := by kernel_rfl
theorem ti21 : (Try.prog.info? 21).map (fun i => (i.size, i.bytes, i.zero.map (·.cells))) = some (1, 4, some ⟨[.int .i32 0]⟩) := by kernel_rfl
theorem ti22 : (Try.prog.info? 22).map (fun i => (i.size, i.bytes, i.zero.map (·.cells))) = some (4, 32, some ⟨[.int .i64 0, .int .i64 0, .int .i64 0, .int .i64 0]⟩) := by kernel_rfl
theorem ti23 : (Try.prog.info? 23).map (fun i => (i.size, i.bytes, i.zero.map (·.cells))) = some (4, 32, some ⟨[.int .i64 0, .int .i64 0, .int .i64 0, .int .i64 0]⟩) := by kernel_rfl
theorem ti24 : (Try.prog.info? 24).map (fun i => (i.size, i.bytes, i.zero.map (·.cells))) = some (4, 32, some ⟨[.int .i64 0, .int .i64 0, .int .i64 0, .int .i64 0]⟩) := by kernel_rfl
theorem ti25 : (Try.prog.info? 25).map (fun i => (i.size, i.bytes, i.zero.map (·.cells))) = some (11, 88, some ⟨[.int .i64 0, .int .i64 0, .int .i64 0, .int .i64 0, .int .i64 0, .int .i64 0, .int .i64 0, .int .i64 0, .int .i64 0, .int .i64 0, .int .i64 0]⟩) := by kernel_rfl
theorem ti26 : (Try.prog.info? 26).map (fun i => (i.size, i.bytes, i.zero.map (·.cells))) = some (11, 88, some ⟨[.int .i64 0, .int .i64 0, .int .i64 0, .int .i64 0, .int .i64 0, .int .i64 0, .int .i64 0, .int .i64 0, .int .i64 0, .int .i64 0, .int .i64 0]⟩) := by kernel_rfl
theorem ti27 : (Try.prog.info? 27).map (fun i => (i.size, i.bytes, i.zero.map (·.cells))) = some (3, 24, some ⟨[.int .i64 0, .int .i64 0, .int .i64 0]⟩) := by kernel_rfl
theorem ti28 : (Try.prog.info? 28).map (fun i => (i.size, i.bytes, i.zero.map (·.cells))) = some (3, 24, some ⟨[.int .i64 0, .int .i64 0, .int .i64 0]⟩) := by kernel_rfl
theorem ti29 : (Try.prog.info? 29).map (fun i => (i.size, i.bytes, i.zero.map (·.cells))) = some (4, 32, some ⟨[.int .i64 0, .int .i64 0, .int .i64 0, .int .i64 0]⟩) := by kernel_rfl
theorem ti30 : (Try.prog.info? 30).map (fun i => (i.size, i.bytes, i.zero.map (·.cells))) = some (11, 88, some ⟨[.int .i64 0, .int .i64 0, .int .i64 0, .int .i64 0, .int .i64 0, .int .i64 0, .int .i64 0, .int .i64 0, .int .i64 0, .int .i64 0, .int .i64 0]⟩) := by kernel_rfl
theorem ti31 : (Try.prog.info? 31).map (fun i => (i.size, i.bytes, i.zero.map (·.cells))) = some (11, 88, some ⟨[.int .i64 0, .int .i64 0, .int .i64 0, .int .i64 0, .int .i64 0, .int .i64 0, .int .i64 0, .int .i64 0, .int .i64 0, .int .i64 0, .int .i64 0]⟩) := by kernel_rfl
theorem ti35 : (Try.prog.info? 35).map (fun i => (i.size, i.bytes, i.zero.map (·.cells))) = some (3, 24, some ⟨[.int .i64 0, .int .i64 0, .int .i64 0]⟩) := by kernel_rfl
theorem ti39 : (Try.prog.info? 39).map (fun i => (i.size, i.bytes, i.zero.map (·.cells))) = some (1, 24, some ⟨[.slice none 0 0]⟩) := by kernel_rfl
theorem ti43 : (Try.prog.info? 43).map (fun i => (i.size, i.bytes, i.zero.map (·.cells))) = some (1, 24, some ⟨[.slice none 0 0]⟩) := by kernel_rfl
theorem ti47 : (Try.prog.info? 47).map (fun i => (i.size, i.bytes, i.zero.map (·.cells))) = some (1, 24, some ⟨[.slice none 0 0]⟩) := by kernel_rfl
theorem ti61 : (Try.prog.info? 61).map (fun i => (i.size, i.bytes, i.zero.map (·.cells))) = some (1, 24, some ⟨[.slice none 0 0]⟩) := by kernel_rfl
theorem ti66 : (Try.prog.info? 66).map (fun i => (i.size, i.bytes, i.zero.map (·.cells))) = some (1, 24, some ⟨[.slice none 0 0]⟩) := by kernel_rfl
theorem ti71 : (Try.prog.info? 71).map (fun i => (i.size, i.bytes, i.zero.map (·.cells))) = some (3, 24, some ⟨[.int .i64 0, .int .i64 0, .int .i64 0]⟩) := by kernel_rfl
theorem ti72 : (Try.prog.info? 72).map (fun i => (i.size, i.bytes, i.zero.map (·.cells))) = some (3, 24, some ⟨[.int .i64 0, .int .i64 0, .int .i64 0]⟩) := by kernel_rfl
theorem ti74 : (Try.prog.info? 74).map (fun i => (i.size, i.bytes, i.zero.map (·.cells))) = some (3, 24, some ⟨[.int .i64 0, .int .i64 0, .int .i64 0]⟩) := by kernel_rfl
theorem ti104 : (Try.prog.info? 104).map (fun i => (i.size, i.bytes, i.zero.map (·.cells))) = some (6, 48, some ⟨[.int .i64 0, .int .i64 0, .int .i64 0, .int .i64 0, .int .i64 0, .int .i64 0]⟩) := by kernel_rfl
theorem ti105 : (Try.prog.info? 105).map (fun i => (i.size, i.bytes, i.zero.map (·.cells))) = some (6, 48, some ⟨[.int .i64 0, .int .i64 0, .int .i64 0, .int .i64 0, .int .i64 0, .int .i64 0]⟩) := by kernel_rfl
theorem ti111 : (Try.prog.info? 111).map (fun i => (i.size, i.bytes, i.zero.map (·.cells))) = some (6, 48, some ⟨[.int .i64 0, .int .i64 0, .int .i64 0, .int .i64 0, .int .i64 0, .int .i64 0]⟩) := by kernel_rfl
theorem ti119 : (Try.prog.info? 119).map (fun i => (i.size, i.bytes, i.zero.map (·.cells))) = some (1, 24, some ⟨[.slice none 0 0]⟩) := by kernel_rfl
theorem ti128 : (Try.prog.info? 128).map (fun i => (i.size, i.bytes, i.zero.map (·.cells))) = some (1, 24, some ⟨[.slice none 0 0]⟩) := by kernel_rfl
theorem ti138 : (Try.prog.info? 138).map (fun i => (i.size, i.bytes, i.zero.map (·.cells))) = some (4, 40, some ⟨[.pointer none, .pointer none, .pointer none, .string .empty]⟩) := by kernel_rfl
theorem ti139 : (Try.prog.info? 139).map (fun i => (i.size, i.bytes, i.zero.map (·.cells))) = some (4, 40, some ⟨[.pointer none, .pointer none, .pointer none, .string .empty]⟩) := by kernel_rfl
theorem ti143 : (Try.prog.info? 143).map (fun i => (i.size, i.bytes, i.zero.map (·.cells))) = some (1, 4, some ⟨[.int .u32 0]⟩) := by kernel_rfl
theorem ti144 : (Try.prog.info? 144).map (fun i => (i.size, i.bytes, i.zero.map (·.cells))) = some (1, 1, some ⟨[.int .u8 0]⟩) := by kernel_rfl
theorem ti145 : (Try.prog.info? 145).map (fun i => (i.size, i.bytes, i.zero.map (·.cells))) = some (1, 1, some ⟨[.int .u8 0]⟩) := by kernel_rfl
theorem ti147 : (Try.prog.info? 147).map (fun i => (i.size, i.bytes, i.zero.map (·.cells))) = some (1, 8, some ⟨[.pointer none]⟩) := by kernel_rfl
theorem ti148 : (Try.prog.info? 148).map (fun i => (i.size, i.bytes, i.zero.map (·.cells))) = some (1, 4, some ⟨[.int .i32 0]⟩) := by kernel_rfl
theorem ti149 : (Try.prog.info? 149).map (fun i => (i.size, i.bytes, i.zero.map (·.cells))) = some (1, 4, some ⟨[.int .i32 0]⟩) := by kernel_rfl
theorem ti150 : (Try.prog.info? 150).map (fun i => (i.size, i.bytes, i.zero.map (·.cells))) = some (11, 48, some ⟨[.int .u64 0, .int .u64 0, .int .u32 0, .int .u8 0, .int .u8 0, .int .u8 0, .int .u8 0, .nilFunc, .pointer none, .int .i32 0, .int .i32 0]⟩) := by kernel_rfl
theorem ti151 : (Try.prog.info? 151).map (fun i => (i.size, i.bytes, i.zero.map (·.cells))) = some (11, 48, some ⟨[.int .u64 0, .int .u64 0, .int .u32 0, .int .u8 0, .int .u8 0, .int .u8 0, .int .u8 0, .nilFunc, .pointer none, .int .i32 0, .int .i32 0]⟩) := by kernel_rfl

theorem tok_of {t s b : Nat} {d : TypeDesc} {z : List Value} {c : List TypeDesc} (h1 : Try.prog.underlying t = some d) (h2 : (Try.prog.info? t).map (fun i => (i.size, i.bytes, i.zero.map (·.cells))) = some (s, b, some ⟨z⟩)) (h3 : z.length = s) (h4 : z.all flat0 = true) (h5 : c ≠ [] → CmpOk Try.prog t c) :
    Try.prog.underlying t = some d ∧ ∃ i, Try.prog.info? t = some i ∧ i.size = s ∧ i.bytes = b ∧ (∃ v, i.zero = some v ∧ v.cells = ⟨z⟩) ∧ z.length = s ∧ z.all flat0 = true ∧ (c ≠ [] → CmpOk Try.prog t c) := by
  refine ⟨h1, ?_⟩
  cases e : Try.prog.info? t with
  | none => rw [e] at h2; cases h2
  | some i =>
    rw [e] at h2
    simp only [Option.map_some, Option.some.injEq, Prod.mk.injEq] at h2
    refine ⟨i, rfl, h2.1, h2.2.1, ?_, h3, h4, h5⟩
    cases e2 : i.zero with
    | none => rw [e2] at h2; cases h2.2.2
    | some v => rw [e2] at h2; exact ⟨v, rfl, Option.some.inj h2.2.2⟩

theorem cm22 : CmpOk Try.prog 22 [.int .i64, .int .i64, .int .i64, .int .i64] := cmp_ok (f := 20) (by kernel_rfl) (by kernel_rfl) (by omega) (by kernel_rfl) (by kernel_rfl)
theorem cm23 : CmpOk Try.prog 23 [.int .i64, .int .i64, .int .i64, .int .i64] := cmp_ok (f := 20) (by kernel_rfl) (by kernel_rfl) (by omega) (by kernel_rfl) (by kernel_rfl)
theorem cm24 : CmpOk Try.prog 24 [.int .i64, .int .i64, .int .i64, .int .i64] := cmp_ok (f := 20) (by kernel_rfl) (by kernel_rfl) (by omega) (by kernel_rfl) (by kernel_rfl)
theorem cm25 : CmpOk Try.prog 25 [.int .i64, .int .i64, .int .i64, .int .i64, .int .i64, .int .i64, .int .i64, .int .i64, .int .i64, .int .i64, .int .i64] := cmp_ok (f := 20) (by kernel_rfl) (by kernel_rfl) (by omega) (by kernel_rfl) (by kernel_rfl)
theorem cm26 : CmpOk Try.prog 26 [.int .i64, .int .i64, .int .i64, .int .i64, .int .i64, .int .i64, .int .i64, .int .i64, .int .i64, .int .i64, .int .i64] := cmp_ok (f := 20) (by kernel_rfl) (by kernel_rfl) (by omega) (by kernel_rfl) (by kernel_rfl)
theorem cm27 : CmpOk Try.prog 27 [.int .i64, .int .i64, .int .i64] := cmp_ok (f := 20) (by kernel_rfl) (by kernel_rfl) (by omega) (by kernel_rfl) (by kernel_rfl)
theorem cm28 : CmpOk Try.prog 28 [.int .i64, .int .i64, .int .i64] := cmp_ok (f := 20) (by kernel_rfl) (by kernel_rfl) (by omega) (by kernel_rfl) (by kernel_rfl)
theorem cm29 : CmpOk Try.prog 29 [.int .i64, .int .i64, .int .i64, .int .i64] := cmp_ok (f := 20) (by kernel_rfl) (by kernel_rfl) (by omega) (by kernel_rfl) (by kernel_rfl)
theorem cm30 : CmpOk Try.prog 30 [.int .i64, .int .i64, .int .i64, .int .i64, .int .i64, .int .i64, .int .i64, .int .i64, .int .i64, .int .i64, .int .i64] := cmp_ok (f := 20) (by kernel_rfl) (by kernel_rfl) (by omega) (by kernel_rfl) (by kernel_rfl)
theorem cm31 : CmpOk Try.prog 31 [.int .i64, .int .i64, .int .i64, .int .i64, .int .i64, .int .i64, .int .i64, .int .i64, .int .i64, .int .i64, .int .i64] := cmp_ok (f := 20) (by kernel_rfl) (by kernel_rfl) (by omega) (by kernel_rfl) (by kernel_rfl)
theorem cm35 : CmpOk Try.prog 35 [.int .i64, .int .i64, .int .i64] := cmp_ok (f := 20) (by kernel_rfl) (by kernel_rfl) (by omega) (by kernel_rfl) (by kernel_rfl)
theorem cm71 : CmpOk Try.prog 71 [.int .i64, .int .i64, .int .i64] := cmp_ok (f := 20) (by kernel_rfl) (by kernel_rfl) (by omega) (by kernel_rfl) (by kernel_rfl)
theorem cm72 : CmpOk Try.prog 72 [.int .i64, .int .i64, .int .i64] := cmp_ok (f := 20) (by kernel_rfl) (by kernel_rfl) (by omega) (by kernel_rfl) (by kernel_rfl)
theorem cm74 : CmpOk Try.prog 74 [.int .i64, .int .i64, .int .i64] := cmp_ok (f := 20) (by kernel_rfl) (by kernel_rfl) (by omega) (by kernel_rfl) (by kernel_rfl)
theorem cm104 : CmpOk Try.prog 104 [.int .i64, .int .i64, .int .i64, .int .i64, .int .i64, .int .i64] := cmp_ok (f := 20) (by kernel_rfl) (by kernel_rfl) (by omega) (by kernel_rfl) (by kernel_rfl)
theorem cm105 : CmpOk Try.prog 105 [.int .i64, .int .i64, .int .i64, .int .i64, .int .i64, .int .i64] := cmp_ok (f := 20) (by kernel_rfl) (by kernel_rfl) (by omega) (by kernel_rfl) (by kernel_rfl)
theorem cm111 : CmpOk Try.prog 111 [.int .i64, .int .i64, .int .i64, .int .i64, .int .i64, .int .i64] := cmp_ok (f := 20) (by kernel_rfl) (by kernel_rfl) (by omega) (by kernel_rfl) (by kernel_rfl)
theorem T_ok : TOk Try.prog T := by
  intro t ti h
  unfold T at h
  split at h
  · obtain rfl := Option.some.inj h; exact tok_of Try.underlying2 ti2 rfl rfl (fun h => absurd rfl h)
  · obtain rfl := Option.some.inj h; exact tok_of Try.underlying3 ti3 rfl rfl (fun h => absurd rfl h)
  · obtain rfl := Option.some.inj h; exact tok_of Try.underlying4 ti4 rfl rfl (fun h => absurd rfl h)
  · obtain rfl := Option.some.inj h; exact tok_of Try.underlying5 ti5 rfl rfl (fun h => absurd rfl h)
  · obtain rfl := Option.some.inj h; exact tok_of Try.underlying6 ti6 rfl rfl (fun h => absurd rfl h)
  · obtain rfl := Option.some.inj h; exact tok_of Try.underlying7 ti7 rfl rfl (fun h => absurd rfl h)
  · obtain rfl := Option.some.inj h; exact tok_of Try.underlying8 ti8 rfl rfl (fun h => absurd rfl h)
  · obtain rfl := Option.some.inj h; exact tok_of Try.underlying9 ti9 rfl rfl (fun h => absurd rfl h)
  · obtain rfl := Option.some.inj h; exact tok_of Try.underlying10 ti10 rfl rfl (fun h => absurd rfl h)
  · obtain rfl := Option.some.inj h; exact tok_of Try.underlying11 ti11 rfl rfl (fun h => absurd rfl h)
  · obtain rfl := Option.some.inj h; exact tok_of Try.underlying12 ti12 rfl rfl (fun h => absurd rfl h)
  · obtain rfl := Option.some.inj h; exact tok_of Try.underlying13 ti13 rfl rfl (fun h => absurd rfl h)
  · obtain rfl := Option.some.inj h; exact tok_of Try.underlying14 ti14 rfl rfl (fun h => absurd rfl h)
  · obtain rfl := Option.some.inj h; exact tok_of Try.underlying15 ti15 rfl rfl (fun h => absurd rfl h)
  · obtain rfl := Option.some.inj h; exact tok_of Try.underlying16 ti16 rfl rfl (fun h => absurd rfl h)
  · obtain rfl := Option.some.inj h; exact tok_of Try.underlying17 ti17 rfl rfl (fun h => absurd rfl h)
  · obtain rfl := Option.some.inj h; exact tok_of Try.underlying18 ti18 rfl rfl (fun h => absurd rfl h)
  · obtain rfl := Option.some.inj h; exact tok_of Try.underlying19 ti19 rfl rfl (fun h => absurd rfl h)
  · obtain rfl := Option.some.inj h; exact tok_of Try.underlying21 ti21 rfl rfl (fun h => absurd rfl h)
  · obtain rfl := Option.some.inj h; exact tok_of Try.underlying22 ti22 rfl rfl (fun _ => cm22)
  · obtain rfl := Option.some.inj h; exact tok_of Try.underlying23 ti23 rfl rfl (fun _ => cm23)
  · obtain rfl := Option.some.inj h; exact tok_of Try.underlying24 ti24 rfl rfl (fun _ => cm24)
  · obtain rfl := Option.some.inj h; exact tok_of Try.underlying25 ti25 rfl rfl (fun _ => cm25)
  · obtain rfl := Option.some.inj h; exact tok_of Try.underlying26 ti26 rfl rfl (fun _ => cm26)
  · obtain rfl := Option.some.inj h; exact tok_of Try.underlying27 ti27 rfl rfl (fun _ => cm27)
  · obtain rfl := Option.some.inj h; exact tok_of Try.underlying28 ti28 rfl rfl (fun _ => cm28)
  · obtain rfl := Option.some.inj h; exact tok_of Try.underlying29 ti29 rfl rfl (fun _ => cm29)
  · obtain rfl := Option.some.inj h; exact tok_of Try.underlying30 ti30 rfl rfl (fun _ => cm30)
  · obtain rfl := Option.some.inj h; exact tok_of Try.underlying31 ti31 rfl rfl (fun _ => cm31)
  · obtain rfl := Option.some.inj h; exact tok_of Try.underlying35 ti35 rfl rfl (fun _ => cm35)
  · obtain rfl := Option.some.inj h; exact tok_of Try.underlying39 ti39 rfl rfl (fun h => absurd rfl h)
  · obtain rfl := Option.some.inj h; exact tok_of Try.underlying43 ti43 rfl rfl (fun h => absurd rfl h)
  · obtain rfl := Option.some.inj h; exact tok_of Try.underlying47 ti47 rfl rfl (fun h => absurd rfl h)
  · obtain rfl := Option.some.inj h; exact tok_of Try.underlying61 ti61 rfl rfl (fun h => absurd rfl h)
  · obtain rfl := Option.some.inj h; exact tok_of Try.underlying66 ti66 rfl rfl (fun h => absurd rfl h)
  · obtain rfl := Option.some.inj h; exact tok_of Try.underlying71 ti71 rfl rfl (fun _ => cm71)
  · obtain rfl := Option.some.inj h; exact tok_of Try.underlying72 ti72 rfl rfl (fun _ => cm72)
  · obtain rfl := Option.some.inj h; exact tok_of Try.underlying74 ti74 rfl rfl (fun _ => cm74)
  · obtain rfl := Option.some.inj h; exact tok_of Try.underlying104 ti104 rfl rfl (fun _ => cm104)
  · obtain rfl := Option.some.inj h; exact tok_of Try.underlying105 ti105 rfl rfl (fun _ => cm105)
  · obtain rfl := Option.some.inj h; exact tok_of Try.underlying111 ti111 rfl rfl (fun _ => cm111)
  · obtain rfl := Option.some.inj h; exact tok_of Try.underlying119 ti119 rfl rfl (fun h => absurd rfl h)
  · obtain rfl := Option.some.inj h; exact tok_of Try.underlying128 ti128 rfl rfl (fun h => absurd rfl h)
  · obtain rfl := Option.some.inj h; exact tok_of Try.underlying138 ti138 rfl rfl (fun h => absurd rfl h)
  · obtain rfl := Option.some.inj h; exact tok_of Try.underlying139 ti139 rfl rfl (fun h => absurd rfl h)
  · obtain rfl := Option.some.inj h; exact tok_of Try.underlying143 ti143 rfl rfl (fun h => absurd rfl h)
  · obtain rfl := Option.some.inj h; exact tok_of Try.underlying144 ti144 rfl rfl (fun h => absurd rfl h)
  · obtain rfl := Option.some.inj h; exact tok_of Try.underlying145 ti145 rfl rfl (fun h => absurd rfl h)
  · obtain rfl := Option.some.inj h; exact tok_of Try.underlying147 ti147 rfl rfl (fun h => absurd rfl h)
  · obtain rfl := Option.some.inj h; exact tok_of Try.underlying148 ti148 rfl rfl (fun h => absurd rfl h)
  · obtain rfl := Option.some.inj h; exact tok_of Try.underlying149 ti149 rfl rfl (fun h => absurd rfl h)
  · obtain rfl := Option.some.inj h; exact tok_of Try.underlying150 ti150 rfl rfl (fun h => absurd rfl h)
  · obtain rfl := Option.some.inj h; exact tok_of Try.underlying151 ti151 rfl rfl (fun h => absurd rfl h)
  · cases h

theorem mixed : Try.prog.follows .mixedOrders = true := by kernel_rfl
noncomputable abbrev env (N : Nat) (l : List (Ent Try.prog)) (live : List (Nat × List Nat) := []) (ord : List (Nat × DMode) := []) : Env := mkEnv Try.prog T N l live ord
theorem env_ok {N : Nat} {l : List (Ent Try.prog)} {live : List (Nat × List Nat)} {ord : List (Nat × DMode)} : EnvOk Try.prog (env N l live ord) := mkEnv_ok T_ok mixed
theorem Try.own : ownKnob Try.prog.godebug = none := by kernel_rfl
theorem Try.laidOut : laidOutB Try.prog = true := by kernel_rfl
end Go.Proofs.Ytmmjhebplflabaa
