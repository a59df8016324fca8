/- The table of the types of this program, and that it is right; no condition. -/
import Derived.Test.YtbhlncohfpempaaDoorEng22
import Derived.Test.YtbhlncohfpempaaDoorProg
namespace Go.Proofs.YtbhlncohfpempaaDoor
open Go Go.Eng
def y1 : TI := ⟨.func #[] #[] false, 1, 8, [.nilFunc], []⟩
@[simp] theorem y1_s : y1.size = 1 := rfl
@[simp] theorem y1_b : y1.bytes = 8 := rfl
def y2 : TI := ⟨.int .i64, 1, 8, [.int .i64 0], []⟩
@[simp] theorem y2_s : y2.size = 1 := rfl
@[simp] theorem y2_b : y2.bytes = 8 := rfl
def y3 : TI := ⟨.int .i64, 1, 8, [.int .i64 0], []⟩
@[simp] theorem y3_s : y3.size = 1 := rfl
@[simp] theorem y3_b : y3.bytes = 8 := rfl
def y4 : TI := ⟨.bool, 1, 1, [.bool false], []⟩
@[simp] theorem y4_s : y4.size = 1 := rfl
@[simp] theorem y4_b : y4.bytes = 1 := rfl
def y5 : TI := ⟨.int .u8, 1, 1, [.int .u8 0], []⟩
@[simp] theorem y5_s : y5.size = 1 := rfl
@[simp] theorem y5_b : y5.bytes = 1 := rfl
def y6 : TI := ⟨.int .u8, 1, 1, [.int .u8 0], []⟩
@[simp] theorem y6_s : y6.size = 1 := rfl
@[simp] theorem y6_b : y6.bytes = 1 := rfl
def y7 : TI := ⟨.struct #[⟨ "x", 2, 0, false, "", "runtime", 0⟩, ⟨ "y", 3, 1, false, "", "runtime", 8⟩, ⟨ "signed", 4, 2, false, "", "runtime", 16⟩, ⟨ "code", 6, 3, false, "", "runtime", 17⟩], 4, 24, [.int .i64 0, .int .i64 0, .bool false, .int .u8 0], []⟩
@[simp] theorem y7_s : y7.size = 4 := rfl
@[simp] theorem y7_b : y7.bytes = 24 := rfl
def y8 : TI := ⟨.struct #[⟨ "x", 2, 0, false, "", "runtime", 0⟩, ⟨ "y", 3, 1, false, "", "runtime", 8⟩, ⟨ "signed", 4, 2, false, "", "runtime", 16⟩, ⟨ "code", 6, 3, false, "", "runtime", 17⟩], 4, 24, [.int .i64 0, .int .i64 0, .bool false, .int .u8 0], []⟩
@[simp] theorem y8_s : y8.size = 4 := rfl
@[simp] theorem y8_b : y8.bytes = 24 := rfl
def y9 : TI := ⟨.string, 1, 16, [.string .empty], []⟩
@[simp] theorem y9_s : y9.size = 1 := rfl
@[simp] theorem y9_b : y9.bytes = 16 := rfl
def y10 : TI := ⟨.string, 1, 16, [.string .empty], []⟩
@[simp] theorem y10_s : y10.size = 1 := rfl
@[simp] theorem y10_b : y10.bytes = 16 := rfl
def y11 : TI := ⟨.string, 1, 16, [.string .empty], []⟩
@[simp] theorem y11_s : y11.size = 1 := rfl
@[simp] theorem y11_b : y11.bytes = 16 := rfl
def y12 : TI := ⟨.int .u64, 1, 8, [.int .u64 0], []⟩
@[simp] theorem y12_s : y12.size = 1 := rfl
@[simp] theorem y12_b : y12.bytes = 8 := rfl
def y13 : TI := ⟨.struct #[⟨ "msg", 9, 0, false, "", "runtime", 0⟩, ⟨ "addr", 12, 1, false, "", "runtime", 16⟩], 2, 24, [.string .empty, .int .u64 0], []⟩
@[simp] theorem y13_s : y13.size = 2 := rfl
@[simp] theorem y13_b : y13.bytes = 24 := rfl
def y14 : TI := ⟨.struct #[⟨ "msg", 9, 0, false, "", "runtime", 0⟩, ⟨ "addr", 12, 1, false, "", "runtime", 16⟩], 2, 24, [.string .empty, .int .u64 0], []⟩
@[simp] theorem y14_s : y14.size = 2 := rfl
@[simp] theorem y14_b : y14.bytes = 24 := rfl
def y15 : TI := ⟨.pointer 166, 1, 8, [.pointer none], []⟩
@[simp] theorem y15_s : y15.size = 1 := rfl
@[simp] theorem y15_b : y15.bytes = 8 := rfl
def y16 : TI := ⟨.pointer 169, 1, 8, [.pointer none], []⟩
@[simp] theorem y16_s : y16.size = 1 := rfl
@[simp] theorem y16_b : y16.bytes = 8 := rfl
def y17 : TI := ⟨.pointer 176, 1, 8, [.pointer none], []⟩
@[simp] theorem y17_s : y17.size = 1 := rfl
@[simp] theorem y17_b : y17.bytes = 8 := rfl
def y18 : TI := ⟨.struct #[⟨ "typ", 17, 0, false, "", "internal/runtime/maps", 0⟩], 1, 8, [.pointer none], []⟩
@[simp] theorem y18_s : y18.size = 1 := rfl
@[simp] theorem y18_b : y18.bytes = 8 := rfl
def y19 : TI := ⟨.struct #[⟨ "typ", 17, 0, false, "", "internal/runtime/maps", 0⟩], 1, 8, [.pointer none], []⟩
@[simp] theorem y19_s : y19.size = 1 := rfl
@[simp] theorem y19_b : y19.bytes = 8 := rfl
def y21 : TI := ⟨.int .i32, 1, 4, [.int .i32 0], []⟩
@[simp] theorem y21_s : y21.size = 1 := rfl
@[simp] theorem y21_b : y21.bytes = 4 := rfl
def y22 : TI := ⟨.struct #[⟨ "Command", 9, 0, false, "", "", 0⟩, ⟨ "Reply", 9, 1, false, "", "", 16⟩], 2, 32, [.string .empty, .string .empty], [.string, .string]⟩
@[simp] theorem y22_s : y22.size = 2 := rfl
@[simp] theorem y22_b : y22.bytes = 32 := rfl
def y23 : TI := ⟨.struct #[⟨ "Command", 9, 0, false, "", "", 0⟩, ⟨ "Reply", 9, 1, false, "", "", 16⟩], 2, 32, [.string .empty, .string .empty], [.string, .string]⟩
@[simp] theorem y23_s : y23.size = 2 := rfl
@[simp] theorem y23_b : y23.bytes = 32 := rfl
def y24 : TI := ⟨.func #[23, 3] #[3] false, 1, 8, [.nilFunc], []⟩
@[simp] theorem y24_s : y24.size = 1 := rfl
@[simp] theorem y24_b : y24.bytes = 8 := rfl
def y26 : TI := ⟨.func #[3, 27] #[9, 4] false, 1, 8, [.nilFunc], []⟩
@[simp] theorem y26_s : y26.size = 1 := rfl
@[simp] theorem y26_b : y26.bytes = 8 := rfl
def y27 : TI := ⟨.struct #[⟨ "Command", 9, 0, false, "", "", 0⟩, ⟨ "Reply", 9, 1, false, "", "", 16⟩], 2, 32, [.string .empty, .string .empty], [.string, .string]⟩
@[simp] theorem y27_s : y27.size = 2 := rfl
@[simp] theorem y27_b : y27.bytes = 32 := rfl
def y28 : TI := ⟨.func #[23] #[27] false, 1, 8, [.nilFunc], []⟩
@[simp] theorem y28_s : y28.size = 1 := rfl
@[simp] theorem y28_b : y28.bytes = 8 := rfl
def y29 : TI := ⟨.func #[3, 23] #[4] false, 1, 8, [.nilFunc], []⟩
@[simp] theorem y29_s : y29.size = 1 := rfl
@[simp] theorem y29_b : y29.bytes = 8 := rfl
def y30 : TI := ⟨.array 4 3, 4, 32, [.int .i64 0, .int .i64 0, .int .i64 0, .int .i64 0], [.int .i64, .int .i64, .int .i64, .int .i64]⟩
@[simp] theorem y30_s : y30.size = 4 := rfl
@[simp] theorem y30_b : y30.bytes = 32 := rfl
def y31 : TI := ⟨.struct #[⟨ "Glasses", 30, 0, false, "", "", 0⟩], 4, 32, [.int .i64 0, .int .i64 0, .int .i64 0, .int .i64 0], [.int .i64, .int .i64, .int .i64, .int .i64]⟩
@[simp] theorem y31_s : y31.size = 4 := rfl
@[simp] theorem y31_b : y31.bytes = 32 := rfl
def y32 : TI := ⟨.struct #[⟨ "Glasses", 30, 0, false, "", "", 0⟩], 4, 32, [.int .i64 0, .int .i64 0, .int .i64 0, .int .i64 0], [.int .i64, .int .i64, .int .i64, .int .i64]⟩
@[simp] theorem y32_s : y32.size = 4 := rfl
@[simp] theorem y32_b : y32.bytes = 32 := rfl
def y33 : TI := ⟨.slice 3, 1, 24, [.slice none 0 0], []⟩
@[simp] theorem y33_s : y33.size = 1 := rfl
@[simp] theorem y33_b : y33.bytes = 24 := rfl
def y34 : TI := ⟨.func #[35, 33] #[9, 4] false, 1, 8, [.nilFunc], []⟩
@[simp] theorem y34_s : y34.size = 1 := rfl
@[simp] theorem y34_b : y34.bytes = 8 := rfl
def y35 : TI := ⟨.struct #[⟨ "Glasses", 30, 0, false, "", "", 0⟩], 4, 32, [.int .i64 0, .int .i64 0, .int .i64 0, .int .i64 0], [.int .i64, .int .i64, .int .i64, .int .i64]⟩
@[simp] theorem y35_s : y35.size = 4 := rfl
@[simp] theorem y35_b : y35.bytes = 32 := rfl
def y36 : TI := ⟨.func #[32] #[35] false, 1, 8, [.nilFunc], []⟩
@[simp] theorem y36_s : y36.size = 1 := rfl
@[simp] theorem y36_b : y36.bytes = 8 := rfl
def y37 : TI := ⟨.func #[33] #[33] false, 1, 8, [.nilFunc], []⟩
@[simp] theorem y37_s : y37.size = 1 := rfl
@[simp] theorem y37_b : y37.bytes = 8 := rfl
def y38 : TI := ⟨.func #[33, 33] #[4] false, 1, 8, [.nilFunc], []⟩
@[simp] theorem y38_s : y38.size = 1 := rfl
@[simp] theorem y38_b : y38.bytes = 8 := rfl
def y39 : TI := ⟨.func #[32, 33] #[4] false, 1, 8, [.nilFunc], []⟩
@[simp] theorem y39_s : y39.size = 1 := rfl
@[simp] theorem y39_b : y39.bytes = 8 := rfl
def y40 : TI := ⟨.struct #[⟨ "Durable", 9, 0, false, "", "", 0⟩, ⟨ "Pending", 9, 1, false, "", "", 16⟩, ⟨ "Count", 3, 2, false, "", "", 32⟩], 3, 40, [.string .empty, .string .empty, .int .i64 0], [.string, .string, .int .i64]⟩
@[simp] theorem y40_s : y40.size = 3 := rfl
@[simp] theorem y40_b : y40.bytes = 40 := rfl
def y41 : TI := ⟨.struct #[⟨ "Durable", 9, 0, false, "", "", 0⟩, ⟨ "Pending", 9, 1, false, "", "", 16⟩, ⟨ "Count", 3, 2, false, "", "", 32⟩], 3, 40, [.string .empty, .string .empty, .int .i64 0], [.string, .string, .int .i64]⟩
@[simp] theorem y41_s : y41.size = 3 := rfl
@[simp] theorem y41_b : y41.bytes = 40 := rfl
def y43 : TI := ⟨.func #[9] #[41, 3, 4] false, 1, 8, [.nilFunc], []⟩
@[simp] theorem y43_s : y43.size = 1 := rfl
@[simp] theorem y43_b : y43.bytes = 8 := rfl
def y44 : TI := ⟨.func #[41, 41] #[4] false, 1, 8, [.nilFunc], []⟩
@[simp] theorem y44_s : y44.size = 1 := rfl
@[simp] theorem y44_b : y44.bytes = 8 := rfl
def y45 : TI := ⟨.func #[9] #[4] false, 1, 8, [.nilFunc], []⟩
@[simp] theorem y45_s : y45.size = 1 := rfl
@[simp] theorem y45_b : y45.bytes = 8 := rfl
def y46 : TI := ⟨.struct #[⟨ "Durable", 9, 0, false, "", "", 0⟩, ⟨ "Pending", 9, 1, false, "", "", 16⟩, ⟨ "Count", 3, 2, false, "", "", 32⟩], 3, 40, [.string .empty, .string .empty, .int .i64 0], [.string, .string, .int .i64]⟩
@[simp] theorem y46_s : y46.size = 3 := rfl
@[simp] theorem y46_b : y46.bytes = 40 := rfl
def y47 : TI := ⟨.func #[46, 3] #[3] false, 1, 8, [.nilFunc], []⟩
@[simp] theorem y47_s : y47.size = 1 := rfl
@[simp] theorem y47_b : y47.bytes = 8 := rfl
def y48 : TI := ⟨.func #[41] #[4] false, 1, 8, [.nilFunc], []⟩
@[simp] theorem y48_s : y48.size = 1 := rfl
@[simp] theorem y48_b : y48.bytes = 8 := rfl
def y49 : TI := ⟨.func #[46] #[41] false, 1, 8, [.nilFunc], []⟩
@[simp] theorem y49_s : y49.size = 1 := rfl
@[simp] theorem y49_b : y49.bytes = 8 := rfl
def y50 : TI := ⟨.func #[46] #[4] false, 1, 8, [.nilFunc], []⟩
@[simp] theorem y50_s : y50.size = 1 := rfl
@[simp] theorem y50_b : y50.bytes = 8 := rfl
def y51 : TI := ⟨.func #[41, 3, 4] #[9, 4] false, 1, 8, [.nilFunc], []⟩
@[simp] theorem y51_s : y51.size = 1 := rfl
@[simp] theorem y51_b : y51.bytes = 8 := rfl
def y52 : TI := ⟨.func #[46, 3, 4] #[4] false, 1, 8, [.nilFunc], []⟩
@[simp] theorem y52_s : y52.size = 1 := rfl
@[simp] theorem y52_b : y52.bytes = 8 := rfl
def y54 : TI := ⟨.func #[41] #[41, 4] false, 1, 8, [.nilFunc], []⟩
@[simp] theorem y54_s : y54.size = 1 := rfl
@[simp] theorem y54_b : y54.bytes = 8 := rfl
def y56 : TI := ⟨.func #[41, 27] #[41, 3] false, 1, 8, [.nilFunc], []⟩
@[simp] theorem y56_s : y56.size = 1 := rfl
@[simp] theorem y56_b : y56.bytes = 8 := rfl
def y57 : TI := ⟨.func #[46, 23] #[4] false, 1, 8, [.nilFunc], []⟩
@[simp] theorem y57_s : y57.size = 1 := rfl
@[simp] theorem y57_b : y57.bytes = 8 := rfl
def y58 : TI := ⟨.slice 27, 1, 24, [.slice none 0 0], []⟩
@[simp] theorem y58_s : y58.size = 1 := rfl
@[simp] theorem y58_b : y58.bytes = 24 := rfl
def y60 : TI := ⟨.func #[41] #[58, 4] false, 1, 8, [.nilFunc], []⟩
@[simp] theorem y60_s : y60.size = 1 := rfl
@[simp] theorem y60_b : y60.bytes = 8 := rfl
def y61 : TI := ⟨.func #[58, 58] #[4] false, 1, 8, [.nilFunc], []⟩
@[simp] theorem y61_s : y61.size = 1 := rfl
@[simp] theorem y61_b : y61.bytes = 8 := rfl
def y62 : TI := ⟨.func #[58, 3] #[3] false, 1, 8, [.nilFunc], []⟩
@[simp] theorem y62_s : y62.size = 1 := rfl
@[simp] theorem y62_b : y62.bytes = 8 := rfl
def y63 : TI := ⟨.struct #[⟨ "Kit", 32, 0, false, "", "", 0⟩, ⟨ "Sand", 30, 4, false, "", "", 32⟩, ⟨ "Clock", 3, 8, false, "", "", 64⟩, ⟨ "Mark", 3, 9, false, "", "", 72⟩, ⟨ "Count", 3, 10, false, "", "", 80⟩], 11, 88, [.int .i64 0, .int .i64 0, .int .i64 0, .int .i64 0, .int .i64 0, .int .i64 0, .int .i64 0, .int .i64 0, .int .i64 0, .int .i64 0, .int .i64 0], [.int .i64, .int .i64, .int .i64, .int .i64, .int .i64, .int .i64, .int .i64, .int .i64, .int .i64, .int .i64, .int .i64]⟩
@[simp] theorem y63_s : y63.size = 11 := rfl
@[simp] theorem y63_b : y63.bytes = 88 := rfl
def y64 : TI := ⟨.struct #[⟨ "Kit", 32, 0, false, "", "", 0⟩, ⟨ "Sand", 30, 4, false, "", "", 32⟩, ⟨ "Clock", 3, 8, false, "", "", 64⟩, ⟨ "Mark", 3, 9, false, "", "", 72⟩, ⟨ "Count", 3, 10, false, "", "", 80⟩], 11, 88, [.int .i64 0, .int .i64 0, .int .i64 0, .int .i64 0, .int .i64 0, .int .i64 0, .int .i64 0, .int .i64 0, .int .i64 0, .int .i64 0, .int .i64 0], [.int .i64, .int .i64, .int .i64, .int .i64, .int .i64, .int .i64, .int .i64, .int .i64, .int .i64, .int .i64, .int .i64]⟩
@[simp] theorem y64_s : y64.size = 11 := rfl
@[simp] theorem y64_b : y64.bytes = 88 := rfl
def y65 : TI := ⟨.struct #[⟨ "Kitchen", 64, 0, false, "", "", 0⟩, ⟨ "Log", 46, 11, false, "", "", 88⟩], 14, 128, [.int .i64 0, .int .i64 0, .int .i64 0, .int .i64 0, .int .i64 0, .int .i64 0, .int .i64 0, .int .i64 0, .int .i64 0, .int .i64 0, .int .i64 0, .string .empty, .string .empty, .int .i64 0], [.int .i64, .int .i64, .int .i64, .int .i64, .int .i64, .int .i64, .int .i64, .int .i64, .int .i64, .int .i64, .int .i64, .string, .string, .int .i64]⟩
@[simp] theorem y65_s : y65.size = 14 := rfl
@[simp] theorem y65_b : y65.bytes = 128 := rfl
def y66 : TI := ⟨.struct #[⟨ "Kitchen", 64, 0, false, "", "", 0⟩, ⟨ "Log", 46, 11, false, "", "", 88⟩], 14, 128, [.int .i64 0, .int .i64 0, .int .i64 0, .int .i64 0, .int .i64 0, .int .i64 0, .int .i64 0, .int .i64 0, .int .i64 0, .int .i64 0, .int .i64 0, .string .empty, .string .empty, .int .i64 0], [.int .i64, .int .i64, .int .i64, .int .i64, .int .i64, .int .i64, .int .i64, .int .i64, .int .i64, .int .i64, .int .i64, .string, .string, .int .i64]⟩
@[simp] theorem y66_s : y66.size = 14 := rfl
@[simp] theorem y66_b : y66.bytes = 128 := rfl
def y67 : TI := ⟨.func #[66, 3] #[3] false, 1, 8, [.nilFunc], []⟩
@[simp] theorem y67_s : y67.size = 1 := rfl
@[simp] theorem y67_b : y67.bytes = 8 := rfl
def y68 : TI := ⟨.func #[72] #[4] false, 1, 8, [.nilFunc], []⟩
@[simp] theorem y68_s : y68.size = 1 := rfl
@[simp] theorem y68_b : y68.bytes = 8 := rfl
def y69 : TI := ⟨.struct #[⟨ "Kit", 35, 0, false, "", "", 0⟩, ⟨ "Sand", 30, 4, false, "", "", 32⟩, ⟨ "Clock", 3, 8, false, "", "", 64⟩, ⟨ "Mark", 3, 9, false, "", "", 72⟩, ⟨ "Count", 3, 10, false, "", "", 80⟩], 11, 88, [.int .i64 0, .int .i64 0, .int .i64 0, .int .i64 0, .int .i64 0, .int .i64 0, .int .i64 0, .int .i64 0, .int .i64 0, .int .i64 0, .int .i64 0], [.int .i64, .int .i64, .int .i64, .int .i64, .int .i64, .int .i64, .int .i64, .int .i64, .int .i64, .int .i64, .int .i64]⟩
@[simp] theorem y69_s : y69.size = 11 := rfl
@[simp] theorem y69_b : y69.bytes = 88 := rfl
def y70 : TI := ⟨.struct #[⟨ "Kit", 35, 0, false, "", "", 0⟩, ⟨ "Sand", 30, 4, false, "", "", 32⟩, ⟨ "Clock", 3, 8, false, "", "", 64⟩, ⟨ "Mark", 3, 9, false, "", "", 72⟩, ⟨ "Count", 3, 10, false, "", "", 80⟩], 11, 88, [.int .i64 0, .int .i64 0, .int .i64 0, .int .i64 0, .int .i64 0, .int .i64 0, .int .i64 0, .int .i64 0, .int .i64 0, .int .i64 0, .int .i64 0], [.int .i64, .int .i64, .int .i64, .int .i64, .int .i64, .int .i64, .int .i64, .int .i64, .int .i64, .int .i64, .int .i64]⟩
@[simp] theorem y70_s : y70.size = 11 := rfl
@[simp] theorem y70_b : y70.bytes = 88 := rfl
def y71 : TI := ⟨.struct #[⟨ "Kitchen", 70, 0, false, "", "", 0⟩, ⟨ "Log", 41, 11, false, "", "", 88⟩], 14, 128, [.int .i64 0, .int .i64 0, .int .i64 0, .int .i64 0, .int .i64 0, .int .i64 0, .int .i64 0, .int .i64 0, .int .i64 0, .int .i64 0, .int .i64 0, .string .empty, .string .empty, .int .i64 0], [.int .i64, .int .i64, .int .i64, .int .i64, .int .i64, .int .i64, .int .i64, .int .i64, .int .i64, .int .i64, .int .i64, .string, .string, .int .i64]⟩
@[simp] theorem y71_s : y71.size = 14 := rfl
@[simp] theorem y71_b : y71.bytes = 128 := rfl
def y72 : TI := ⟨.struct #[⟨ "Kitchen", 70, 0, false, "", "", 0⟩, ⟨ "Log", 41, 11, false, "", "", 88⟩], 14, 128, [.int .i64 0, .int .i64 0, .int .i64 0, .int .i64 0, .int .i64 0, .int .i64 0, .int .i64 0, .int .i64 0, .int .i64 0, .int .i64 0, .int .i64 0, .string .empty, .string .empty, .int .i64 0], [.int .i64, .int .i64, .int .i64, .int .i64, .int .i64, .int .i64, .int .i64, .int .i64, .int .i64, .int .i64, .int .i64, .string, .string, .int .i64]⟩
@[simp] theorem y72_s : y72.size = 14 := rfl
@[simp] theorem y72_b : y72.bytes = 128 := rfl
def y73 : TI := ⟨.func #[66] #[72] false, 1, 8, [.nilFunc], []⟩
@[simp] theorem y73_s : y73.size = 1 := rfl
@[simp] theorem y73_b : y73.bytes = 8 := rfl
def y74 : TI := ⟨.func #[66] #[4] false, 1, 8, [.nilFunc], []⟩
@[simp] theorem y74_s : y74.size = 1 := rfl
@[simp] theorem y74_b : y74.bytes = 8 := rfl
def y76 : TI := ⟨.func #[35, 9] #[33, 4] false, 1, 8, [.nilFunc], []⟩
@[simp] theorem y76_s : y76.size = 1 := rfl
@[simp] theorem y76_b : y76.bytes = 8 := rfl
def y77 : TI := ⟨.func #[33, 3] #[3] false, 1, 8, [.nilFunc], []⟩
@[simp] theorem y77_s : y77.size = 1 := rfl
@[simp] theorem y77_b : y77.bytes = 8 := rfl
def y78 : TI := ⟨.func #[32, 9] #[4] false, 1, 8, [.nilFunc], []⟩
@[simp] theorem y78_s : y78.size = 1 := rfl
@[simp] theorem y78_b : y78.bytes = 8 := rfl
def y79 : TI := ⟨.func #[3, 3, 3] #[4] false, 1, 8, [.nilFunc], []⟩
@[simp] theorem y79_s : y79.size = 1 := rfl
@[simp] theorem y79_b : y79.bytes = 8 := rfl
def y80 : TI := ⟨.func #[27] #[4] false, 1, 8, [.nilFunc], []⟩
@[simp] theorem y80_s : y80.size = 1 := rfl
@[simp] theorem y80_b : y80.bytes = 8 := rfl
def y81 : TI := ⟨.func #[3, 27] #[9] false, 1, 8, [.nilFunc], []⟩
@[simp] theorem y81_s : y81.size = 1 := rfl
@[simp] theorem y81_b : y81.bytes = 8 := rfl
def y82 : TI := ⟨.func #[9] #[9, 4] false, 1, 8, [.nilFunc], []⟩
@[simp] theorem y82_s : y82.size = 1 := rfl
@[simp] theorem y82_b : y82.bytes = 8 := rfl
def y83 : TI := ⟨.func #[3] #[9] false, 1, 8, [.nilFunc], []⟩
@[simp] theorem y83_s : y83.size = 1 := rfl
@[simp] theorem y83_b : y83.bytes = 8 := rfl
def y84 : TI := ⟨.func #[35] #[4] false, 1, 8, [.nilFunc], []⟩
@[simp] theorem y84_s : y84.size = 1 := rfl
@[simp] theorem y84_b : y84.bytes = 8 := rfl
def y85 : TI := ⟨.func #[35, 33] #[4] false, 1, 8, [.nilFunc], []⟩
@[simp] theorem y85_s : y85.size = 1 := rfl
@[simp] theorem y85_b : y85.bytes = 8 := rfl
def y86 : TI := ⟨.func #[33] #[9] false, 1, 8, [.nilFunc], []⟩
@[simp] theorem y86_s : y86.size = 1 := rfl
@[simp] theorem y86_b : y86.bytes = 8 := rfl
def y87 : TI := ⟨.func #[30] #[30] false, 1, 8, [.nilFunc], []⟩
@[simp] theorem y87_s : y87.size = 1 := rfl
@[simp] theorem y87_b : y87.bytes = 8 := rfl
def y88 : TI := ⟨.func #[33] #[4] false, 1, 8, [.nilFunc], []⟩
@[simp] theorem y88_s : y88.size = 1 := rfl
@[simp] theorem y88_b : y88.bytes = 8 := rfl
def y90 : TI := ⟨.func #[9] #[58, 3] false, 1, 8, [.nilFunc], []⟩
@[simp] theorem y90_s : y90.size = 1 := rfl
@[simp] theorem y90_b : y90.bytes = 8 := rfl
def y92 : TI := ⟨.func #[9] #[58, 33] false, 1, 8, [.nilFunc], []⟩
@[simp] theorem y92_s : y92.size = 1 := rfl
@[simp] theorem y92_b : y92.bytes = 8 := rfl
def y93 : TI := ⟨.func #[] #[58, 4] false, 1, 8, [.nilFunc], []⟩
@[simp] theorem y93_s : y93.size = 1 := rfl
@[simp] theorem y93_b : y93.bytes = 8 := rfl
def y94 : TI := ⟨.slice 5, 1, 24, [.slice none 0 0], []⟩
@[simp] theorem y94_s : y94.size = 1 := rfl
@[simp] theorem y94_b : y94.bytes = 24 := rfl
def y95 : TI := ⟨.func #[27, 27] #[4] false, 1, 8, [.nilFunc], []⟩
@[simp] theorem y95_s : y95.size = 1 := rfl
@[simp] theorem y95_b : y95.bytes = 8 := rfl
def y96 : TI := ⟨.func #[70] #[4] false, 1, 8, [.nilFunc], []⟩
@[simp] theorem y96_s : y96.size = 1 := rfl
@[simp] theorem y96_b : y96.bytes = 8 := rfl
def y97 : TI := ⟨.func #[64] #[70] false, 1, 8, [.nilFunc], []⟩
@[simp] theorem y97_s : y97.size = 1 := rfl
@[simp] theorem y97_b : y97.bytes = 8 := rfl
def y98 : TI := ⟨.slice 9, 1, 24, [.slice none 0 0], []⟩
@[simp] theorem y98_s : y98.size = 1 := rfl
@[simp] theorem y98_b : y98.bytes = 24 := rfl
def y99 : TI := ⟨.func #[9, 5] #[98] false, 1, 8, [.nilFunc], []⟩
@[simp] theorem y99_s : y99.size = 1 := rfl
@[simp] theorem y99_b : y99.bytes = 8 := rfl
def y100 : TI := ⟨.func #[9, 9] #[98] false, 1, 8, [.nilFunc], []⟩
@[simp] theorem y100_s : y100.size = 1 := rfl
@[simp] theorem y100_b : y100.bytes = 8 := rfl
def y101 : TI := ⟨.func #[9, 3] #[4] false, 1, 8, [.nilFunc], []⟩
@[simp] theorem y101_s : y101.size = 1 := rfl
@[simp] theorem y101_b : y101.bytes = 8 := rfl
def y102 : TI := ⟨.func #[9, 5] #[4] false, 1, 8, [.nilFunc], []⟩
@[simp] theorem y102_s : y102.size = 1 := rfl
@[simp] theorem y102_b : y102.bytes = 8 := rfl
def y103 : TI := ⟨.func #[9] #[9] false, 1, 8, [.nilFunc], []⟩
@[simp] theorem y103_s : y103.size = 1 := rfl
@[simp] theorem y103_b : y103.bytes = 8 := rfl
def y104 : TI := ⟨.func #[9, 9] #[4] false, 1, 8, [.nilFunc], []⟩
@[simp] theorem y104_s : y104.size = 1 := rfl
@[simp] theorem y104_b : y104.bytes = 8 := rfl
def y106 : TI := ⟨.func #[9] #[3, 4] false, 1, 8, [.nilFunc], []⟩
@[simp] theorem y106_s : y106.size = 1 := rfl
@[simp] theorem y106_b : y106.bytes = 8 := rfl
def y107 : TI := ⟨.func #[35, 3] #[4] false, 1, 8, [.nilFunc], []⟩
@[simp] theorem y107_s : y107.size = 1 := rfl
@[simp] theorem y107_b : y107.bytes = 8 := rfl
def y108 : TI := ⟨.func #[33, 109] #[4] false, 1, 8, [.nilFunc], []⟩
@[simp] theorem y108_s : y108.size = 1 := rfl
@[simp] theorem y108_b : y108.bytes = 8 := rfl
def y109 : TI := ⟨.func #[3] #[4] false, 1, 8, [.nilFunc], []⟩
@[simp] theorem y109_s : y109.size = 1 := rfl
@[simp] theorem y109_b : y109.bytes = 8 := rfl
def y110 : TI := ⟨.func #[98, 9] #[9] false, 1, 8, [.nilFunc], []⟩
@[simp] theorem y110_s : y110.size = 1 := rfl
@[simp] theorem y110_b : y110.bytes = 8 := rfl
def y112 : TI := ⟨.func #[9, 3] #[27, 4] false, 1, 8, [.nilFunc], []⟩
@[simp] theorem y112_s : y112.size = 1 := rfl
@[simp] theorem y112_b : y112.bytes = 8 := rfl
def y114 : TI := ⟨.func #[9, 3] #[27, 3, 4] false, 1, 8, [.nilFunc], []⟩
@[simp] theorem y114_s : y114.size = 1 := rfl
@[simp] theorem y114_b : y114.bytes = 8 := rfl
def y115 : TI := ⟨.func #[35, 30] #[4] false, 1, 8, [.nilFunc], []⟩
@[simp] theorem y115_s : y115.size = 1 := rfl
@[simp] theorem y115_b : y115.bytes = 8 := rfl
def y116 : TI := ⟨.func #[9, 9, 3, 3] #[98] false, 1, 8, [.nilFunc], []⟩
@[simp] theorem y116_s : y116.size = 1 := rfl
@[simp] theorem y116_b : y116.bytes = 8 := rfl
def y117 : TI := ⟨.func #[9] #[3] false, 1, 8, [.nilFunc], []⟩
@[simp] theorem y117_s : y117.size = 1 := rfl
@[simp] theorem y117_b : y117.bytes = 8 := rfl
def y118 : TI := ⟨.func #[9, 9] #[3] false, 1, 8, [.nilFunc], []⟩
@[simp] theorem y118_s : y118.size = 1 := rfl
@[simp] theorem y118_b : y118.bytes = 8 := rfl
def y119 : TI := ⟨.func #[2, 3] #[9] false, 1, 8, [.nilFunc], []⟩
@[simp] theorem y119_s : y119.size = 1 := rfl
@[simp] theorem y119_b : y119.bytes = 8 := rfl
def y120 : TI := ⟨.func #[35] #[3] false, 1, 8, [.nilFunc], []⟩
@[simp] theorem y120_s : y120.size = 1 := rfl
@[simp] theorem y120_b : y120.bytes = 8 := rfl
def y121 : TI := ⟨.func #[33, 109] #[3] false, 1, 8, [.nilFunc], []⟩
@[simp] theorem y121_s : y121.size = 1 := rfl
@[simp] theorem y121_b : y121.bytes = 8 := rfl
def y122 : TI := ⟨.func #[] #[3] false, 1, 8, [.nilFunc], []⟩
@[simp] theorem y122_s : y122.size = 1 := rfl
@[simp] theorem y122_b : y122.bytes = 8 := rfl
def y123 : TI := ⟨.pointer 125, 1, 8, [.pointer none], []⟩
@[simp] theorem y123_s : y123.size = 1 := rfl
@[simp] theorem y123_b : y123.bytes = 8 := rfl
def y124 : TI := ⟨.struct #[⟨ "addr", 123, 0, false, "", "strings", 0⟩, ⟨ "buf", 94, 1, false, "", "strings", 8⟩], 2, 32, [.pointer none, .slice none 0 0], []⟩
@[simp] theorem y124_s : y124.size = 2 := rfl
@[simp] theorem y124_b : y124.bytes = 32 := rfl
def y125 : TI := ⟨.struct #[⟨ "addr", 123, 0, false, "", "strings", 0⟩, ⟨ "buf", 94, 1, false, "", "strings", 8⟩], 2, 32, [.pointer none, .slice none 0 0], []⟩
@[simp] theorem y125_s : y125.size = 2 := rfl
@[simp] theorem y125_b : y125.bytes = 32 := rfl
def y126 : TI := ⟨.func #[3] #[] false, 1, 8, [.nilFunc], []⟩
@[simp] theorem y126_s : y126.size = 1 := rfl
@[simp] theorem y126_b : y126.bytes = 8 := rfl
def y130 : TI := ⟨.func #[9] #[3, 128] false, 1, 8, [.nilFunc], []⟩
@[simp] theorem y130_s : y130.size = 1 := rfl
@[simp] theorem y130_b : y130.bytes = 8 := rfl
def y131 : TI := ⟨.func #[] #[9] false, 1, 8, [.nilFunc], []⟩
@[simp] theorem y131_s : y131.size = 1 := rfl
@[simp] theorem y131_b : y131.bytes = 8 := rfl
def y133 : TI := ⟨.func #[9, 9] #[9, 9, 4] false, 1, 8, [.nilFunc], []⟩
@[simp] theorem y133_s : y133.size = 1 := rfl
@[simp] theorem y133_b : y133.bytes = 8 := rfl
def y134 : TI := ⟨.func #[30] #[4] false, 1, 8, [.nilFunc], []⟩
@[simp] theorem y134_s : y134.size = 1 := rfl
@[simp] theorem y134_b : y134.bytes = 8 := rfl
def y135 : TI := ⟨.func #[9, 3] #[98] false, 1, 8, [.nilFunc], []⟩
@[simp] theorem y135_s : y135.size = 1 := rfl
@[simp] theorem y135_b : y135.bytes = 8 := rfl
def y136 : TI := ⟨.array 24 5, 24, 24, [.int .u8 0, .int .u8 0, .int .u8 0, .int .u8 0, .int .u8 0, .int .u8 0, .int .u8 0, .int .u8 0, .int .u8 0, .int .u8 0, .int .u8 0, .int .u8 0, .int .u8 0, .int .u8 0, .int .u8 0, .int .u8 0, .int .u8 0, .int .u8 0, .int .u8 0, .int .u8 0, .int .u8 0, .int .u8 0, .int .u8 0, .int .u8 0], [.int .u8, .int .u8, .int .u8, .int .u8, .int .u8, .int .u8, .int .u8, .int .u8, .int .u8, .int .u8, .int .u8, .int .u8, .int .u8, .int .u8, .int .u8, .int .u8, .int .u8, .int .u8, .int .u8, .int .u8, .int .u8, .int .u8, .int .u8, .int .u8]⟩
@[simp] theorem y136_s : y136.size = 24 := rfl
@[simp] theorem y136_b : y136.bytes = 24 := rfl
def y137 : TI := ⟨.int .u64, 1, 8, [.int .u64 0], []⟩
@[simp] theorem y137_s : y137.size = 1 := rfl
@[simp] theorem y137_b : y137.bytes = 8 := rfl
def y138 : TI := ⟨.func #[137] #[3] false, 1, 8, [.nilFunc], []⟩
@[simp] theorem y138_s : y138.size = 1 := rfl
@[simp] theorem y138_b : y138.bytes = 8 := rfl
def y139 : TI := ⟨.func #[94, 137] #[] false, 1, 8, [.nilFunc], []⟩
@[simp] theorem y139_s : y139.size = 1 := rfl
@[simp] theorem y139_b : y139.bytes = 8 := rfl
def y141 : TI := ⟨.func #[94, 137, 3, 4, 4] #[94, 9] false, 1, 8, [.nilFunc], []⟩
@[simp] theorem y141_s : y141.size = 1 := rfl
@[simp] theorem y141_b : y141.bytes = 8 := rfl
def y142 : TI := ⟨.pointer 5, 1, 8, [.pointer none], []⟩
@[simp] theorem y142_s : y142.size = 1 := rfl
@[simp] theorem y142_b : y142.bytes = 8 := rfl
def y144 : TI := ⟨.func #[9] #[21, 3] false, 1, 8, [.nilFunc], []⟩
@[simp] theorem y144_s : y144.size = 1 := rfl
@[simp] theorem y144_b : y144.bytes = 8 := rfl
def y145 : TI := ⟨.func #[9, 5] #[3] false, 1, 8, [.nilFunc], []⟩
@[simp] theorem y145_s : y145.size = 1 := rfl
@[simp] theorem y145_b : y145.bytes = 8 := rfl
def y146 : TI := ⟨.func #[3] #[3] false, 1, 8, [.nilFunc], []⟩
@[simp] theorem y146_s : y146.size = 1 := rfl
@[simp] theorem y146_b : y146.bytes = 8 := rfl
def y147 : TI := ⟨.int .u64, 1, 8, [.int .u64 0], []⟩
@[simp] theorem y147_s : y147.size = 1 := rfl
@[simp] theorem y147_b : y147.bytes = 8 := rfl
def y148 : TI := ⟨.func #[4] #[3] false, 1, 8, [.nilFunc], []⟩
@[simp] theorem y148_s : y148.size = 1 := rfl
@[simp] theorem y148_b : y148.bytes = 8 := rfl
def y149 : TI := ⟨.array 20 137, 20, 160, [.int .u64 0, .int .u64 0, .int .u64 0, .int .u64 0, .int .u64 0, .int .u64 0, .int .u64 0, .int .u64 0, .int .u64 0, .int .u64 0, .int .u64 0, .int .u64 0, .int .u64 0, .int .u64 0, .int .u64 0, .int .u64 0, .int .u64 0, .int .u64 0, .int .u64 0, .int .u64 0], []⟩
@[simp] theorem y149_s : y149.size = 20 := rfl
@[simp] theorem y149_b : y149.bytes = 160 := rfl
def y150 : TI := ⟨.int .u32, 1, 4, [.int .u32 0], []⟩
@[simp] theorem y150_s : y150.size = 1 := rfl
@[simp] theorem y150_b : y150.bytes = 4 := rfl
def y151 : TI := ⟨.array 65 5, 65, 65, [.int .u8 0, .int .u8 0, .int .u8 0, .int .u8 0, .int .u8 0, .int .u8 0, .int .u8 0, .int .u8 0, .int .u8 0, .int .u8 0, .int .u8 0, .int .u8 0, .int .u8 0, .int .u8 0, .int .u8 0, .int .u8 0, .int .u8 0, .int .u8 0, .int .u8 0, .int .u8 0, .int .u8 0, .int .u8 0, .int .u8 0, .int .u8 0, .int .u8 0, .int .u8 0, .int .u8 0, .int .u8 0, .int .u8 0, .int .u8 0, .int .u8 0, .int .u8 0, .int .u8 0, .int .u8 0, .int .u8 0, .int .u8 0, .int .u8 0, .int .u8 0, .int .u8 0, .int .u8 0, .int .u8 0, .int .u8 0, .int .u8 0, .int .u8 0, .int .u8 0, .int .u8 0, .int .u8 0, .int .u8 0, .int .u8 0, .int .u8 0, .int .u8 0, .int .u8 0, .int .u8 0, .int .u8 0, .int .u8 0, .int .u8 0, .int .u8 0, .int .u8 0, .int .u8 0, .int .u8 0, .int .u8 0, .int .u8 0, .int .u8 0, .int .u8 0, .int .u8 0], []⟩
@[simp] theorem y151_s : y151.size = 65 := rfl
@[simp] theorem y151_b : y151.bytes = 65 := rfl
def y152 : TI := ⟨.func #[147] #[3] false, 1, 8, [.nilFunc], []⟩
@[simp] theorem y152_s : y152.size = 1 := rfl
@[simp] theorem y152_b : y152.bytes = 8 := rfl
def y154 : TI := ⟨.func #[153] #[153] false, 1, 8, [.nilFunc], []⟩
@[simp] theorem y154_s : y154.size = 1 := rfl
@[simp] theorem y154_b : y154.bytes = 8 := rfl
def y155 : TI := ⟨.func #[3] #[94] false, 1, 8, [.nilFunc], []⟩
@[simp] theorem y155_s : y155.size = 1 := rfl
@[simp] theorem y155_b : y155.bytes = 8 := rfl
def y157 : TI := ⟨.func #[9] #[150, 150] false, 1, 8, [.nilFunc], []⟩
@[simp] theorem y157_s : y157.size = 1 := rfl
@[simp] theorem y157_b : y157.bytes = 8 := rfl
def y158 : TI := ⟨.func #[150] #[3] false, 1, 8, [.nilFunc], []⟩
@[simp] theorem y158_s : y158.size = 1 := rfl
@[simp] theorem y158_b : y158.bytes = 8 := rfl
def y159 : TI := ⟨.array 256 5, 256, 256, [.int .u8 0, .int .u8 0, .int .u8 0, .int .u8 0, .int .u8 0, .int .u8 0, .int .u8 0, .int .u8 0, .int .u8 0, .int .u8 0, .int .u8 0, .int .u8 0, .int .u8 0, .int .u8 0, .int .u8 0, .int .u8 0, .int .u8 0, .int .u8 0, .int .u8 0, .int .u8 0, .int .u8 0, .int .u8 0, .int .u8 0, .int .u8 0, .int .u8 0, .int .u8 0, .int .u8 0, .int .u8 0, .int .u8 0, .int .u8 0, .int .u8 0, .int .u8 0, .int .u8 0, .int .u8 0, .int .u8 0, .int .u8 0, .int .u8 0, .int .u8 0, .int .u8 0, .int .u8 0, .int .u8 0, .int .u8 0, .int .u8 0, .int .u8 0, .int .u8 0, .int .u8 0, .int .u8 0, .int .u8 0, .int .u8 0, .int .u8 0, .int .u8 0, .int .u8 0, .int .u8 0, .int .u8 0, .int .u8 0, .int .u8 0, .int .u8 0, .int .u8 0, .int .u8 0, .int .u8 0, .int .u8 0, .int .u8 0, .int .u8 0, .int .u8 0, .int .u8 0, .int .u8 0, .int .u8 0, .int .u8 0, .int .u8 0, .int .u8 0, .int .u8 0, .int .u8 0, .int .u8 0, .int .u8 0, .int .u8 0, .int .u8 0, .int .u8 0, .int .u8 0, .int .u8 0, .int .u8 0, .int .u8 0, .int .u8 0, .int .u8 0, .int .u8 0, .int .u8 0, .int .u8 0, .int .u8 0, .int .u8 0, .int .u8 0, .int .u8 0, .int .u8 0, .int .u8 0, .int .u8 0, .int .u8 0, .int .u8 0, .int .u8 0, .int .u8 0, .int .u8 0, .int .u8 0, .int .u8 0, .int .u8 0, .int .u8 0, .int .u8 0, .int .u8 0, .int .u8 0, .int .u8 0, .int .u8 0, .int .u8 0, .int .u8 0, .int .u8 0, .int .u8 0, .int .u8 0, .int .u8 0, .int .u8 0, .int .u8 0, .int .u8 0, .int .u8 0, .int .u8 0, .int .u8 0, .int .u8 0, .int .u8 0, .int .u8 0, .int .u8 0, .int .u8 0, .int .u8 0, .int .u8 0, .int .u8 0, .int .u8 0, .int .u8 0, .int .u8 0, .int .u8 0, .int .u8 0, .int .u8 0, .int .u8 0, .int .u8 0, .int .u8 0, .int .u8 0, .int .u8 0, .int .u8 0, .int .u8 0, .int .u8 0, .int .u8 0, .int .u8 0, .int .u8 0, .int .u8 0, .int .u8 0, .int .u8 0, .int .u8 0, .int .u8 0, .int .u8 0, .int .u8 0, .int .u8 0, .int .u8 0, .int .u8 0, .int .u8 0, .int .u8 0, .int .u8 0, .int .u8 0, .int .u8 0, .int .u8 0, .int .u8 0, .int .u8 0, .int .u8 0, .int .u8 0, .int .u8 0, .int .u8 0, .int .u8 0, .int .u8 0, .int .u8 0, .int .u8 0, .int .u8 0, .int .u8 0, .int .u8 0, .int .u8 0, .int .u8 0, .int .u8 0, .int .u8 0, .int .u8 0, .int .u8 0, .int .u8 0, .int .u8 0, .int .u8 0, .int .u8 0, .int .u8 0, .int .u8 0, .int .u8 0, .int .u8 0, .int .u8 0, .int .u8 0, .int .u8 0, .int .u8 0, .int .u8 0, .int .u8 0, .int .u8 0, .int .u8 0, .int .u8 0, .int .u8 0, .int .u8 0, .int .u8 0, .int .u8 0, .int .u8 0, .int .u8 0, .int .u8 0, .int .u8 0, .int .u8 0, .int .u8 0, .int .u8 0, .int .u8 0, .int .u8 0, .int .u8 0, .int .u8 0, .int .u8 0, .int .u8 0, .int .u8 0, .int .u8 0, .int .u8 0, .int .u8 0, .int .u8 0, .int .u8 0, .int .u8 0, .int .u8 0, .int .u8 0, .int .u8 0, .int .u8 0, .int .u8 0, .int .u8 0, .int .u8 0, .int .u8 0, .int .u8 0, .int .u8 0, .int .u8 0, .int .u8 0, .int .u8 0, .int .u8 0, .int .u8 0, .int .u8 0, .int .u8 0, .int .u8 0, .int .u8 0, .int .u8 0, .int .u8 0, .int .u8 0, .int .u8 0, .int .u8 0, .int .u8 0, .int .u8 0, .int .u8 0, .int .u8 0, .int .u8 0, .int .u8 0, .int .u8 0, .int .u8 0, .int .u8 0, .int .u8 0, .int .u8 0, .int .u8 0], []⟩
@[simp] theorem y159_s : y159.size = 256 := rfl
@[simp] theorem y159_b : y159.bytes = 256 := rfl
def y160 : TI := ⟨.struct #[⟨ "lo", 5, 0, false, "", "unicode/utf8", 0⟩, ⟨ "hi", 5, 1, false, "", "unicode/utf8", 1⟩], 2, 2, [.int .u8 0, .int .u8 0], [.int .u8, .int .u8]⟩
@[simp] theorem y160_s : y160.size = 2 := rfl
@[simp] theorem y160_b : y160.bytes = 2 := rfl
def y161 : TI := ⟨.struct #[⟨ "lo", 5, 0, false, "", "unicode/utf8", 0⟩, ⟨ "hi", 5, 1, false, "", "unicode/utf8", 1⟩], 2, 2, [.int .u8 0, .int .u8 0], [.int .u8, .int .u8]⟩
@[simp] theorem y161_s : y161.size = 2 := rfl
@[simp] theorem y161_b : y161.bytes = 2 := rfl
def y162 : TI := ⟨.array 16 161, 32, 32, [.int .u8 0, .int .u8 0, .int .u8 0, .int .u8 0, .int .u8 0, .int .u8 0, .int .u8 0, .int .u8 0, .int .u8 0, .int .u8 0, .int .u8 0, .int .u8 0, .int .u8 0, .int .u8 0, .int .u8 0, .int .u8 0, .int .u8 0, .int .u8 0, .int .u8 0, .int .u8 0, .int .u8 0, .int .u8 0, .int .u8 0, .int .u8 0, .int .u8 0, .int .u8 0, .int .u8 0, .int .u8 0, .int .u8 0, .int .u8 0, .int .u8 0, .int .u8 0], []⟩
@[simp] theorem y162_s : y162.size = 32 := rfl
@[simp] theorem y162_b : y162.bytes = 32 := rfl
def y163 : TI := ⟨.array 32 5, 32, 32, [.int .u8 0, .int .u8 0, .int .u8 0, .int .u8 0, .int .u8 0, .int .u8 0, .int .u8 0, .int .u8 0, .int .u8 0, .int .u8 0, .int .u8 0, .int .u8 0, .int .u8 0, .int .u8 0, .int .u8 0, .int .u8 0, .int .u8 0, .int .u8 0, .int .u8 0, .int .u8 0, .int .u8 0, .int .u8 0, .int .u8 0, .int .u8 0, .int .u8 0, .int .u8 0, .int .u8 0, .int .u8 0, .int .u8 0, .int .u8 0, .int .u8 0, .int .u8 0], []⟩
@[simp] theorem y163_s : y163.size = 32 := rfl
@[simp] theorem y163_b : y163.bytes = 32 := rfl
def y164 : TI := ⟨.array 64 5, 64, 64, [.int .u8 0, .int .u8 0, .int .u8 0, .int .u8 0, .int .u8 0, .int .u8 0, .int .u8 0, .int .u8 0, .int .u8 0, .int .u8 0, .int .u8 0, .int .u8 0, .int .u8 0, .int .u8 0, .int .u8 0, .int .u8 0, .int .u8 0, .int .u8 0, .int .u8 0, .int .u8 0, .int .u8 0, .int .u8 0, .int .u8 0, .int .u8 0, .int .u8 0, .int .u8 0, .int .u8 0, .int .u8 0, .int .u8 0, .int .u8 0, .int .u8 0, .int .u8 0, .int .u8 0, .int .u8 0, .int .u8 0, .int .u8 0, .int .u8 0, .int .u8 0, .int .u8 0, .int .u8 0, .int .u8 0, .int .u8 0, .int .u8 0, .int .u8 0, .int .u8 0, .int .u8 0, .int .u8 0, .int .u8 0, .int .u8 0, .int .u8 0, .int .u8 0, .int .u8 0, .int .u8 0, .int .u8 0, .int .u8 0, .int .u8 0, .int .u8 0, .int .u8 0, .int .u8 0, .int .u8 0, .int .u8 0, .int .u8 0, .int .u8 0, .int .u8 0], []⟩
@[simp] theorem y164_s : y164.size = 64 := rfl
@[simp] theorem y164_b : y164.bytes = 64 := rfl
def y165 : TI := ⟨.struct #[⟨ "_interface", 17, 0, false, "", "runtime", 0⟩, ⟨ "concrete", 17, 1, false, "", "runtime", 8⟩, ⟨ "asserted", 17, 2, false, "", "runtime", 16⟩, ⟨ "missingMethod", 9, 3, false, "", "runtime", 24⟩], 4, 40, [.pointer none, .pointer none, .pointer none, .string .empty], []⟩
@[simp] theorem y165_s : y165.size = 4 := rfl
@[simp] theorem y165_b : y165.bytes = 40 := rfl
def y166 : TI := ⟨.struct #[⟨ "_interface", 17, 0, false, "", "runtime", 0⟩, ⟨ "concrete", 17, 1, false, "", "runtime", 8⟩, ⟨ "asserted", 17, 2, false, "", "runtime", 16⟩, ⟨ "missingMethod", 9, 3, false, "", "runtime", 24⟩], 4, 40, [.pointer none, .pointer none, .pointer none, .string .empty], []⟩
@[simp] theorem y166_s : y166.size = 4 := rfl
@[simp] theorem y166_b : y166.bytes = 40 := rfl
def y170 : TI := ⟨.int .u8, 1, 1, [.int .u8 0], []⟩
@[simp] theorem y170_s : y170.size = 1 := rfl
@[simp] theorem y170_b : y170.bytes = 1 := rfl
def y171 : TI := ⟨.int .u8, 1, 1, [.int .u8 0], []⟩
@[simp] theorem y171_s : y171.size = 1 := rfl
@[simp] theorem y171_b : y171.bytes = 1 := rfl
def y172 : TI := ⟨.func #[153, 153] #[4] false, 1, 8, [.nilFunc], []⟩
@[simp] theorem y172_s : y172.size = 1 := rfl
@[simp] theorem y172_b : y172.bytes = 8 := rfl
def y173 : TI := ⟨.int .i32, 1, 4, [.int .i32 0], []⟩
@[simp] theorem y173_s : y173.size = 1 := rfl
@[simp] theorem y173_b : y173.bytes = 4 := rfl
def y174 : TI := ⟨.int .i32, 1, 4, [.int .i32 0], []⟩
@[simp] theorem y174_s : y174.size = 1 := rfl
@[simp] theorem y174_b : y174.bytes = 4 := rfl
def y175 : TI := ⟨.struct #[⟨ "Size_", 12, 0, false, "", "", 0⟩, ⟨ "PtrBytes", 12, 1, false, "", "", 8⟩, ⟨ "Hash", 150, 2, false, "", "", 16⟩, ⟨ "TFlag", 170, 3, false, "", "", 20⟩, ⟨ "Align_", 5, 4, false, "", "", 21⟩, ⟨ "FieldAlign_", 5, 5, false, "", "", 22⟩, ⟨ "Kind_", 171, 6, false, "", "", 23⟩, ⟨ "Equal", 172, 7, false, "", "", 24⟩, ⟨ "GCData", 142, 8, false, "", "", 32⟩, ⟨ "Str", 173, 9, false, "", "", 40⟩, ⟨ "PtrToThis", 174, 10, false, "", "", 44⟩], 11, 48, [.int .u64 0, .int .u64 0, .int .u32 0, .int .u8 0, .int .u8 0, .int .u8 0, .int .u8 0, .nilFunc, .pointer none, .int .i32 0, .int .i32 0], []⟩
@[simp] theorem y175_s : y175.size = 11 := rfl
@[simp] theorem y175_b : y175.bytes = 48 := rfl
def y176 : TI := ⟨.struct #[⟨ "Size_", 12, 0, false, "", "", 0⟩, ⟨ "PtrBytes", 12, 1, false, "", "", 8⟩, ⟨ "Hash", 150, 2, false, "", "", 16⟩, ⟨ "TFlag", 170, 3, false, "", "", 20⟩, ⟨ "Align_", 5, 4, false, "", "", 21⟩, ⟨ "FieldAlign_", 5, 5, false, "", "", 22⟩, ⟨ "Kind_", 171, 6, false, "", "", 23⟩, ⟨ "Equal", 172, 7, false, "", "", 24⟩, ⟨ "GCData", 142, 8, false, "", "", 32⟩, ⟨ "Str", 173, 9, false, "", "", 40⟩, ⟨ "PtrToThis", 174, 10, false, "", "", 44⟩], 11, 48, [.int .u64 0, .int .u64 0, .int .u32 0, .int .u8 0, .int .u8 0, .int .u8 0, .int .u8 0, .nilFunc, .pointer none, .int .i32 0, .int .i32 0], []⟩
@[simp] theorem y176_s : y176.size = 11 := rfl
@[simp] theorem y176_b : y176.bytes = 48 := rfl
def T : TT := fun t => match t with
  | 1 => some y1
  | 2 => some y2
  | 3 => some y3
  | 4 => some y4
  | 5 => some y5
  | 6 => some y6
  | 7 => some y7
  | 8 => some y8
  | 9 => some y9
  | 10 => some y10
  | 11 => some y11
  | 12 => some y12
  | 13 => some y13
  | 14 => some y14
  | 15 => some y15
  | 16 => some y16
  | 17 => some y17
  | 18 => some y18
  | 19 => some y19
  | 21 => some y21
  | 22 => some y22
  | 23 => some y23
  | 24 => some y24
  | 26 => some y26
  | 27 => some y27
  | 28 => some y28
  | 29 => some y29
  | 30 => some y30
  | 31 => some y31
  | 32 => some y32
  | 33 => some y33
  | 34 => some y34
  | 35 => some y35
  | 36 => some y36
  | 37 => some y37
  | 38 => some y38
  | 39 => some y39
  | 40 => some y40
  | 41 => some y41
  | 43 => some y43
  | 44 => some y44
  | 45 => some y45
  | 46 => some y46
  | 47 => some y47
  | 48 => some y48
  | 49 => some y49
  | 50 => some y50
  | 51 => some y51
  | 52 => some y52
  | 54 => some y54
  | 56 => some y56
  | 57 => some y57
  | 58 => some y58
  | 60 => some y60
  | 61 => some y61
  | 62 => some y62
  | 63 => some y63
  | 64 => some y64
  | 65 => some y65
  | 66 => some y66
  | 67 => some y67
  | 68 => some y68
  | 69 => some y69
  | 70 => some y70
  | 71 => some y71
  | 72 => some y72
  | 73 => some y73
  | 74 => some y74
  | 76 => some y76
  | 77 => some y77
  | 78 => some y78
  | 79 => some y79
  | 80 => some y80
  | 81 => some y81
  | 82 => some y82
  | 83 => some y83
  | 84 => some y84
  | 85 => some y85
  | 86 => some y86
  | 87 => some y87
  | 88 => some y88
  | 90 => some y90
  | 92 => some y92
  | 93 => some y93
  | 94 => some y94
  | 95 => some y95
  | 96 => some y96
  | 97 => some y97
  | 98 => some y98
  | 99 => some y99
  | 100 => some y100
  | 101 => some y101
  | 102 => some y102
  | 103 => some y103
  | 104 => some y104
  | 106 => some y106
  | 107 => some y107
  | 108 => some y108
  | 109 => some y109
  | 110 => some y110
  | 112 => some y112
  | 114 => some y114
  | 115 => some y115
  | 116 => some y116
  | 117 => some y117
  | 118 => some y118
  | 119 => some y119
  | 120 => some y120
  | 121 => some y121
  | 122 => some y122
  | 123 => some y123
  | 124 => some y124
  | 125 => some y125
  | 126 => some y126
  | 130 => some y130
  | 131 => some y131
  | 133 => some y133
  | 134 => some y134
  | 135 => some y135
  | 136 => some y136
  | 137 => some y137
  | 138 => some y138
  | 139 => some y139
  | 141 => some y141
  | 142 => some y142
  | 144 => some y144
  | 145 => some y145
  | 146 => some y146
  | 147 => some y147
  | 148 => some y148
  | 149 => some y149
  | 150 => some y150
  | 151 => some y151
  | 152 => some y152
  | 154 => some y154
  | 155 => some y155
  | 157 => some y157
  | 158 => some y158
  | 159 => some y159
  | 160 => some y160
  | 161 => some y161
  | 162 => some y162
  | 163 => some y163
  | 164 => some y164
  | 165 => some y165
  | 166 => some y166
  | 170 => some y170
  | 171 => some y171
  | 172 => some y172
  | 173 => some y173
  | 174 => some y174
  | 175 => some y175
  | 176 => some y176
  | _ => none

theorem ti1 : (Tryd.prog.info? 1).map (fun i => (i.size, i.bytes, i.zero.map (·.cells))) = some (1, 8, some ⟨[.nilFunc]⟩) := by kernel_rfl
theorem ti2 : (Tryd.prog.info? 2).map (fun i => (i.size, i.bytes, i.zero.map (·.cells))) = some (1, 8, some ⟨[.int .i64 0]⟩) := by kernel_rfl
theorem ti3 : (Tryd.prog.info? 3).map (fun i => (i.size, i.bytes, i.zero.map (·.cells))) = some (1, 8, some ⟨[.int .i64 0]⟩) := by kernel_rfl
theorem ti4 : (Tryd.prog.info? 4).map (fun i => (i.size, i.bytes, i.zero.map (·.cells))) = some (1, 1, some ⟨[.bool false]⟩) := by kernel_rfl
theorem ti5 : (Tryd.prog.info? 5).map (fun i => (i.size, i.bytes, i.zero.map (·.cells))) = some (1, 1, some ⟨[.int .u8 0]⟩) := by kernel_rfl
theorem ti6 : (Tryd.prog.info? 6).map (fun i => (i.size, i.bytes, i.zero.map (·.cells))) = some (1, 1, some ⟨[.int .u8 0]⟩) := by kernel_rfl
theorem ti7 : (Tryd.prog.info? 7).map (fun i => (i.size, i.bytes, i.zero.map (·.cells))) = some (4, 24, some ⟨[.int .i64 0, .int .i64 0, .bool false, .int .u8 0]⟩) := by kernel_rfl
theorem ti8 : (Tryd.prog.info? 8).map (fun i => (i.size, i.bytes, i.zero.map (·.cells))) = some (4, 24, some ⟨[.int .i64 0, .int .i64 0, .bool false, .int .u8 0]⟩) := by kernel_rfl
theorem ti9 : (Tryd.prog.info? 9).map (fun i => (i.size, i.bytes, i.zero.map (·.cells))) = some (1, 16, some ⟨[.string .empty]⟩) := by kernel_rfl
theorem ti10 : (Tryd.prog.info? 10).map (fun i => (i.size, i.bytes, i.zero.map (·.cells))) = some (1, 16, some ⟨[.string .empty]⟩) := by kernel_rfl
theorem ti11 : (Tryd.prog.info? 11).map (fun i => (i.size, i.bytes, i.zero.map (·.cells))) = some (1, 16, some ⟨[.string .empty]⟩) := by kernel_rfl
theorem ti12 : (Tryd.prog.info? 12).map (fun i => (i.size, i.bytes, i.zero.map (·.cells))) = some (1, 8, some ⟨[.int .u64 0]⟩) := by kernel_rfl
theorem ti13 : (Tryd.prog.info? 13).map (fun i => (i.size, i.bytes, i.zero.map (·.cells))) = some (2, 24, some ⟨[.string .empty, .int .u64 0]⟩) := by kernel_rfl
theorem ti14 : (Tryd.prog.info? 14).map (fun i => (i.size, i.bytes, i.zero.map (·.cells))) = some (2, 24, some ⟨[.string .empty, .int .u64 0]⟩) := by kernel_rfl
theorem ti15 : (Tryd.prog.info? 15).map (fun i => (i.size, i.bytes, i.zero.map (·.cells))) = some (1, 8, some ⟨[.pointer none]⟩) := by kernel_rfl
theorem ti16 : (Tryd.prog.info? 16).map (fun i => (i.size, i.bytes, i.zero.map (·.cells))) = some (1, 8, some ⟨[.pointer none]⟩) := by kernel_rfl
theorem ti17 : (Tryd.prog.info? 17).map (fun i => (i.size, i.bytes, i.zero.map (·.cells))) = some (1, 8, some ⟨[.pointer none]⟩) := by kernel_rfl
theorem ti18 : (Tryd.prog.info? 18).map (fun i => (i.size, i.bytes, i.zero.map (·.cells))) = some (1, 8, some ⟨[.pointer none]⟩) := by kernel_rfl
theorem ti19 : (Tryd.prog.info? 19).map (fun i => (i.size, i.bytes, i.zero.map (·.cells))) = some (1, 8, some ⟨[.pointer none]⟩) := by kernel_rfl
theorem ti21 : (Tryd.prog.info? 21).map (fun i => (i.size, i.bytes, i.zero.map (·.cells))) = some (1, 4, some ⟨[.int .i32 0]⟩) := by kernel_rfl
theorem ti22 : (Tryd.prog.info? 22).map (fun i => (i.size, i.bytes, i.zero.map (·.cells))) = some (2, 32, some ⟨[.string .empty, .string .empty]⟩) := by kernel_rfl
theorem ti23 : (Tryd.prog.info? 23).map (fun i => (i.size, i.bytes, i.zero.map (·.cells))) = some (2, 32, some ⟨[.string .empty, .string .empty]⟩) := by kernel_rfl
theorem ti24 : (Tryd.prog.info? 24).map (fun i => (i.size, i.bytes, i.zero.map (·.cells))) = some (1, 8, some ⟨[.nilFunc]⟩) := by kernel_rfl
theorem ti26 : (Tryd.prog.info? 26).map (fun i => (i.size, i.bytes, i.zero.map (·.cells))) = some (1, 8, some ⟨[.nilFunc]⟩) := by kernel_rfl
theorem ti27 : (Tryd.prog.info? 27).map (fun i => (i.size, i.bytes, i.zero.map (·.cells))) = some (2, 32, some ⟨[.string .empty, .string .empty]⟩) := by kernel_rfl
theorem ti28 : (Tryd.prog.info? 28).map (fun i => (i.size, i.bytes, i.zero.map (·.cells))) = some (1, 8, some ⟨[.nilFunc]⟩) := by kernel_rfl
theorem ti29 : (Tryd.prog.info? 29).map (fun i => (i.size, i.bytes, i.zero.map (·.cells))) = some (1, 8, some ⟨[.nilFunc]⟩) := by kernel_rfl
theorem ti30 : (Tryd.prog.info? 30).map (fun i => (i.size, i.bytes, i.zero.map (·.cells))) = some (4, 32, some ⟨[.int .i64 0, .int .i64 0, .int .i64 0, .int .i64 0]⟩) := by kernel_rfl
theorem ti31 : (Tryd.prog.info? 31).map (fun i => (i.size, i.bytes, i.zero.map (·.cells))) = some (4, 32, some ⟨[.int .i64 0, .int .i64 0, .int .i64 0, .int .i64 0]⟩) := by kernel_rfl
theorem ti32 : (Tryd.prog.info? 32).map (fun i => (i.size, i.bytes, i.zero.map (·.cells))) = some (4, 32, some ⟨[.int .i64 0, .int .i64 0, .int .i64 0, .int .i64 0]⟩) := by kernel_rfl
theorem ti33 : (Tryd.prog.info? 33).map (fun i => (i.size, i.bytes, i.zero.map (·.cells))) = some (1, 24, some ⟨[.slice none 0 0]⟩) := by kernel_rfl
theorem ti34 : (Tryd.prog.info? 34).map (fun i => (i.size, i.bytes, i.zero.map (·.cells))) = some (1, 8, some ⟨[.nilFunc]⟩) := by kernel_rfl
theorem ti35 : (Tryd.prog.info? 35).map (fun i => (i.size, i.bytes, i.zero.map (·.cells))) = some (4, 32, some ⟨[.int .i64 0, .int .i64 0, .int .i64 0, .int .i64 0]⟩) := by kernel_rfl
theorem ti36 : (Tryd.prog.info? 36).map (fun i => (i.size, i.bytes, i.zero.map (·.cells))) = some (1, 8, some ⟨[.nilFunc]⟩) := by kernel_rfl
theorem ti37 : (Tryd.prog.info? 37).map (fun i => (i.size, i.bytes, i.zero.map (·.cells))) = some (1, 8, some ⟨[.nilFunc]⟩) := by kernel_rfl
theorem ti38 : (Tryd.prog.info? 38).map (fun i => (i.size, i.bytes, i.zero.map (·.cells))) = some (1, 8, some ⟨[.nilFunc]⟩) := by kernel_rfl
theorem ti39 : (Tryd.prog.info? 39).map (fun i => (i.size, i.bytes, i.zero.map (·.cells))) = some (1, 8, some ⟨[.nilFunc]⟩) := by kernel_rfl
theorem ti40 : (Tryd.prog.info? 40).map (fun i => (i.size, i.bytes, i.zero.map (·.cells))) = some (3, 40, some ⟨[.string .empty, .string .empty, .int .i64 0]⟩) := by kernel_rfl
theorem ti41 : (Tryd.prog.info? 41).map (fun i => (i.size, i.bytes, i.zero.map (·.cells))) = some (3, 40, some ⟨[.string .empty, .string .empty, .int .i64 0]⟩) := by kernel_rfl
theorem ti43 : (Tryd.prog.info? 43).map (fun i => (i.size, i.bytes, i.zero.map (·.cells))) = some (1, 8, some ⟨[.nilFunc]⟩) := by kernel_rfl
theorem ti44 : (Tryd.prog.info? 44).map (fun i => (i.size, i.bytes, i.zero.map (·.cells))) = some (1, 8, some ⟨[.nilFunc]⟩) := by kernel_rfl
theorem ti45 : (Tryd.prog.info? 45).map (fun i => (i.size, i.bytes, i.zero.map (·.cells))) = some (1, 8, some ⟨[.nilFunc]⟩) := by kernel_rfl
theorem ti46 : (Tryd.prog.info? 46).map (fun i => (i.size, i.bytes, i.zero.map (·.cells))) = some (3, 40, some ⟨[.string .empty, .string .empty, .int .i64 0]⟩) := by kernel_rfl
theorem ti47 : (Tryd.prog.info? 47).map (fun i => (i.size, i.bytes, i.zero.map (·.cells))) = some (1, 8, some ⟨[.nilFunc]⟩) := by kernel_rfl
theorem ti48 : (Tryd.prog.info? 48).map (fun i => (i.size, i.bytes, i.zero.map (·.cells))) = some (1, 8, some ⟨[.nilFunc]⟩) := by kernel_rfl
theorem ti49 : (Tryd.prog.info? 49).map (fun i => (i.size, i.bytes, i.zero.map (·.cells))) = some (1, 8, some ⟨[.nilFunc]⟩) := by kernel_rfl
theorem ti50 : (Tryd.prog.info? 50).map (fun i => (i.size, i.bytes, i.zero.map (·.cells))) = some (1, 8, some ⟨[.nilFunc]⟩) := by kernel_rfl
theorem ti51 : (Tryd.prog.info? 51).map (fun i => (i.size, i.bytes, i.zero.map (·.cells))) = some (1, 8, some ⟨[.nilFunc]⟩) := by kernel_rfl
theorem ti52 : (Tryd.prog.info? 52).map (fun i => (i.size, i.bytes, i.zero.map (·.cells))) = some (1, 8, some ⟨[.nilFunc]⟩) := by kernel_rfl
theorem ti54 : (Tryd.prog.info? 54).map (fun i => (i.size, i.bytes, i.zero.map (·.cells))) = some (1, 8, some ⟨[.nilFunc]⟩) := by kernel_rfl
theorem ti56 : (Tryd.prog.info? 56).map (fun i => (i.size, i.bytes, i.zero.map (·.cells))) = some (1, 8, some ⟨[.nilFunc]⟩) := by kernel_rfl
theorem ti57 : (Tryd.prog.info? 57).map (fun i => (i.size, i.bytes, i.zero.map (·.cells))) = some (1, 8, some ⟨[.nilFunc]⟩) := by kernel_rfl
theorem ti58 : (Tryd.prog.info? 58).map (fun i => (i.size, i.bytes, i.zero.map (·.cells))) = some (1, 24, some ⟨[.slice none 0 0]⟩) := by kernel_rfl
theorem ti60 : (Tryd.prog.info? 60).map (fun i => (i.size, i.bytes, i.zero.map (·.cells))) = some (1, 8, some ⟨[.nilFunc]⟩) := by kernel_rfl
theorem ti61 : (Tryd.prog.info? 61).map (fun i => (i.size, i.bytes, i.zero.map (·.cells))) = some (1, 8, some ⟨[.nilFunc]⟩) := by kernel_rfl
theorem ti62 : (Tryd.prog.info? 62).map (fun i => (i.size, i.bytes, i.zero.map (·.cells))) = some (1, 8, some ⟨[.nilFunc]⟩) := by kernel_rfl
theorem ti63 : (Tryd.prog.info? 63).map (fun i => (i.size, i.bytes, i.zero.map (·.cells))) = some (11, 88, some ⟨[.int .i64 0, .int .i64 0, .int .i64 0, .int .i64 0, .int .i64 0, .int .i64 0, .int .i64 0, .int .i64 0, .int .i64 0, .int .i64 0, .int .i64 0]⟩) := by kernel_rfl
theorem ti64 : (Tryd.prog.info? 64).map (fun i => (i.size, i.bytes, i.zero.map (·.cells))) = some (11, 88, some ⟨[.int .i64 0, .int .i64 0, .int .i64 0, .int .i64 0, .int .i64 0, .int .i64 0, .int .i64 0, .int .i64 0, .int .i64 0, .int .i64 0, .int .i64 0]⟩) := by kernel_rfl
theorem ti65 : (Tryd.prog.info? 65).map (fun i => (i.size, i.bytes, i.zero.map (·.cells))) = some (14, 128, some ⟨[.int .i64 0, .int .i64 0, .int .i64 0, .int .i64 0, .int .i64 0, .int .i64 0, .int .i64 0, .int .i64 0, .int .i64 0, .int .i64 0, .int .i64 0, .string .empty, .string .empty, .int .i64 0]⟩) := by kernel_rfl
theorem ti66 : (Tryd.prog.info? 66).map (fun i => (i.size, i.bytes, i.zero.map (·.cells))) = some (14, 128, some ⟨[.int .i64 0, .int .i64 0, .int .i64 0, .int .i64 0, .int .i64 0, .int .i64 0, .int .i64 0, .int .i64 0, .int .i64 0, .int .i64 0, .int .i64 0, .string .empty, .string .empty, .int .i64 0]⟩) := by kernel_rfl
theorem ti67 : (Tryd.prog.info? 67).map (fun i => (i.size, i.bytes, i.zero.map (·.cells))) = some (1, 8, some ⟨[.nilFunc]⟩) := by kernel_rfl
theorem ti68 : (Tryd.prog.info? 68).map (fun i => (i.size, i.bytes, i.zero.map (·.cells))) = some (1, 8, some ⟨[.nilFunc]⟩) := by kernel_rfl
theorem ti69 : (Tryd.prog.info? 69).map (fun i => (i.size, i.bytes, i.zero.map (·.cells))) = some (11, 88, some ⟨[.int .i64 0, .int .i64 0, .int .i64 0, .int .i64 0, .int .i64 0, .int .i64 0, .int .i64 0, .int .i64 0, .int .i64 0, .int .i64 0, .int .i64 0]⟩) := by kernel_rfl
theorem ti70 : (Tryd.prog.info? 70).map (fun i => (i.size, i.bytes, i.zero.map (·.cells))) = some (11, 88, some ⟨[.int .i64 0, .int .i64 0, .int .i64 0, .int .i64 0, .int .i64 0, .int .i64 0, .int .i64 0, .int .i64 0, .int .i64 0, .int .i64 0, .int .i64 0]⟩) := by kernel_rfl
theorem ti71 : (Tryd.prog.info? 71).map (fun i => (i.size, i.bytes, i.zero.map (·.cells))) = some (14, 128, some ⟨[.int .i64 0, .int .i64 0, .int .i64 0, .int .i64 0, .int .i64 0, .int .i64 0, .int .i64 0, .int .i64 0, .int .i64 0, .int .i64 0, .int .i64 0, .string .empty, .string .empty, .int .i64 0]⟩) := by kernel_rfl
theorem ti72 : (Tryd.prog.info? 72).map (fun i => (i.size, i.bytes, i.zero.map (·.cells))) = some (14, 128, some ⟨[.int .i64 0, .int .i64 0, .int .i64 0, .int .i64 0, .int .i64 0, .int .i64 0, .int .i64 0, .int .i64 0, .int .i64 0, .int .i64 0, .int .i64 0, .string .empty, .string .empty, .int .i64 0]⟩) := by kernel_rfl
theorem ti73 : (Tryd.prog.info? 73).map (fun i => (i.size, i.bytes, i.zero.map (·.cells))) = some (1, 8, some ⟨[.nilFunc]⟩) := by kernel_rfl
theorem ti74 : (Tryd.prog.info? 74).map (fun i => (i.size, i.bytes, i.zero.map (·.cells))) = some (1, 8, some ⟨[.nilFunc]⟩) := by kernel_rfl
theorem ti76 : (Tryd.prog.info? 76).map (fun i => (i.size, i.bytes, i.zero.map (·.cells))) = some (1, 8, some ⟨[.nilFunc]⟩) := by kernel_rfl
theorem ti77 : (Tryd.prog.info? 77).map (fun i => (i.size, i.bytes, i.zero.map (·.cells))) = some (1, 8, some ⟨[.nilFunc]⟩) := by kernel_rfl
theorem ti78 : (Tryd.prog.info? 78).map (fun i => (i.size, i.bytes, i.zero.map (·.cells))) = some (1, 8, some ⟨[.nilFunc]⟩) := by kernel_rfl
theorem ti79 : (Tryd.prog.info? 79).map (fun i => (i.size, i.bytes, i.zero.map (·.cells))) = some (1, 8, some ⟨[.nilFunc]⟩) := by kernel_rfl
theorem ti80 : (Tryd.prog.info? 80).map (fun i => (i.size, i.bytes, i.zero.map (·.cells))) = some (1, 8, some ⟨[.nilFunc]⟩) := by kernel_rfl
theorem ti81 : (Tryd.prog.info? 81).map (fun i => (i.size, i.bytes, i.zero.map (·.cells))) = some (1, 8, some ⟨[.nilFunc]⟩) := by kernel_rfl
theorem ti82 : (Tryd.prog.info? 82).map (fun i => (i.size, i.bytes, i.zero.map (·.cells))) = some (1, 8, some ⟨[.nilFunc]⟩) := by kernel_rfl
theorem ti83 : (Tryd.prog.info? 83).map (fun i => (i.size, i.bytes, i.zero.map (·.cells))) = some (1, 8, some ⟨[.nilFunc]⟩) := by kernel_rfl
theorem ti84 : (Tryd.prog.info? 84).map (fun i => (i.size, i.bytes, i.zero.map (·.cells))) = some (1, 8, some ⟨[.nilFunc]⟩) := by kernel_rfl
theorem ti85 : (Tryd.prog.info? 85).map (fun i => (i.size, i.bytes, i.zero.map (·.cells))) = some (1, 8, some ⟨[.nilFunc]⟩) := by kernel_rfl
theorem ti86 : (Tryd.prog.info? 86).map (fun i => (i.size, i.bytes, i.zero.map (·.cells))) = some (1, 8, some ⟨[.nilFunc]⟩) := by kernel_rfl
theorem ti87 : (Tryd.prog.info? 87).map (fun i => (i.size, i.bytes, i.zero.map (·.cells))) = some (1, 8, some ⟨[.nilFunc]⟩) := by kernel_rfl
theorem ti88 : (Tryd.prog.info? 88).map (fun i => (i.size, i.bytes, i.zero.map (·.cells))) = some (1, 8, some ⟨[.nilFunc]⟩) := by kernel_rfl
theorem ti90 : (Tryd.prog.info? 90).map (fun i => (i.size, i.bytes, i.zero.map (·.cells))) = some (1, 8, some ⟨[.nilFunc]⟩) := by kernel_rfl
theorem ti92 : (Tryd.prog.info? 92).map (fun i => (i.size, i.bytes, i.zero.map (·.cells))) = some (1, 8, some ⟨[.nilFunc]⟩) := by kernel_rfl
theorem ti93 : (Tryd.prog.info? 93).map (fun i => (i.size, i.bytes, i.zero.map (·.cells))) = some (1, 8, some ⟨[.nilFunc]⟩) := by kernel_rfl
theorem ti94 : (Tryd.prog.info? 94).map (fun i => (i.size, i.bytes, i.zero.map (·.cells))) = some (1, 24, some ⟨[.slice none 0 0]⟩) := by kernel_rfl
theorem ti95 : (Tryd.prog.info? 95).map (fun i => (i.size, i.bytes, i.zero.map (·.cells))) = some (1, 8, some ⟨[.nilFunc]⟩) := by kernel_rfl
theorem ti96 : (Tryd.prog.info? 96).map (fun i => (i.size, i.bytes, i.zero.map (·.cells))) = some (1, 8, some ⟨[.nilFunc]⟩) := by kernel_rfl
theorem ti97 : (Tryd.prog.info? 97).map (fun i => (i.size, i.bytes, i.zero.map (·.cells))) = some (1, 8, some ⟨[.nilFunc]⟩) := by kernel_rfl
theorem ti98 : (Tryd.prog.info? 98).map (fun i => (i.size, i.bytes, i.zero.map (·.cells))) = some (1, 24, some ⟨[.slice none 0 0]⟩) := by kernel_rfl
theorem ti99 : (Tryd.prog.info? 99).map (fun i => (i.size, i.bytes, i.zero.map (·.cells))) = some (1, 8, some ⟨[.nilFunc]⟩) := by kernel_rfl
theorem ti100 : (Tryd.prog.info? 100).map (fun i => (i.size, i.bytes, i.zero.map (·.cells))) = some (1, 8, some ⟨[.nilFunc]⟩) := by kernel_rfl
theorem ti101 : (Tryd.prog.info? 101).map (fun i => (i.size, i.bytes, i.zero.map (·.cells))) = some (1, 8, some ⟨[.nilFunc]⟩) := by kernel_rfl
theorem ti102 : (Tryd.prog.info? 102).map (fun i => (i.size, i.bytes, i.zero.map (·.cells))) = some (1, 8, some ⟨[.nilFunc]⟩) := by kernel_rfl
theorem ti103 : (Tryd.prog.info? 103).map (fun i => (i.size, i.bytes, i.zero.map (·.cells))) = some (1, 8, some ⟨[.nilFunc]⟩) := by kernel_rfl
theorem ti104 : (Tryd.prog.info? 104).map (fun i => (i.size, i.bytes, i.zero.map (·.cells))) = some (1, 8, some ⟨[.nilFunc]⟩) := by kernel_rfl
theorem ti106 : (Tryd.prog.info? 106).map (fun i => (i.size, i.bytes, i.zero.map (·.cells))) = some (1, 8, some ⟨[.nilFunc]⟩) := by kernel_rfl
theorem ti107 : (Tryd.prog.info? 107).map (fun i => (i.size, i.bytes, i.zero.map (·.cells))) = some (1, 8, some ⟨[.nilFunc]⟩) := by kernel_rfl
theorem ti108 : (Tryd.prog.info? 108).map (fun i => (i.size, i.bytes, i.zero.map (·.cells))) = some (1, 8, some ⟨[.nilFunc]⟩) := by kernel_rfl
theorem ti109 : (Tryd.prog.info? 109).map (fun i => (i.size, i.bytes, i.zero.map (·.cells))) = some (1, 8, some ⟨[.nilFunc]⟩) := by kernel_rfl
theorem ti110 : (Tryd.prog.info? 110).map (fun i => (i.size, i.bytes, i.zero.map (·.cells))) = some (1, 8, some ⟨[.nilFunc]⟩) := by kernel_rfl
theorem ti112 : (Tryd.prog.info? 112).map (fun i => (i.size, i.bytes, i.zero.map (·.cells))) = some (1, 8, some ⟨[.nilFunc]⟩) := by kernel_rfl
theorem ti114 : (Tryd.prog.info? 114).map (fun i => (i.size, i.bytes, i.zero.map (·.cells))) = some (1, 8, some ⟨[.nilFunc]⟩) := by kernel_rfl
theorem ti115 : (Tryd.prog.info? 115).map (fun i => (i.size, i.bytes, i.zero.map (·.cells))) = some (1, 8, some ⟨[.nilFunc]⟩) := by kernel_rfl
theorem ti116 : (Tryd.prog.info? 116).map (fun i => (i.size, i.bytes, i.zero.map (·.cells))) = some (1, 8, some ⟨[.nilFunc]⟩) := by kernel_rfl
theorem ti117 : (Tryd.prog.info? 117).map (fun i => (i.size, i.bytes, i.zero.map (·.cells))) = some (1, 8, some ⟨[.nilFunc]⟩) := by kernel_rfl
theorem ti118 : (Tryd.prog.info? 118).map (fun i => (i.size, i.bytes, i.zero.map (·.cells))) = some (1, 8, some ⟨[.nilFunc]⟩) := by kernel_rfl
theorem ti119 : (Tryd.prog.info? 119).map (fun i => (i.size, i.bytes, i.zero.map (·.cells))) = some (1, 8, some ⟨[.nilFunc]⟩) := by kernel_rfl
theorem ti120 : (Tryd.prog.info? 120).map (fun i => (i.size, i.bytes, i.zero.map (·.cells))) = some (1, 8, some ⟨[.nilFunc]⟩) := by kernel_rfl
theorem ti121 : (Tryd.prog.info? 121).map (fun i => (i.size, i.bytes, i.zero.map (·.cells))) = some (1, 8, some ⟨[.nilFunc]⟩) := by kernel_rfl
theorem ti122 : (Tryd.prog.info? 122).map (fun i => (i.size, i.bytes, i.zero.map (·.cells))) = some (1, 8, some ⟨[.nilFunc]⟩) := by kernel_rfl
theorem ti123 : (Tryd.prog.info? 123).map (fun i => (i.size, i.bytes, i.zero.map (·.cells))) = some (1, 8, some ⟨[.pointer none]⟩) := by kernel_rfl
theorem ti124 : (Tryd.prog.info? 124).map (fun i => (i.size, i.bytes, i.zero.map (·.cells))) = some (2, 32, some ⟨[.pointer none, .slice none 0 0]⟩) := by kernel_rfl
theorem ti125 : (Tryd.prog.info? 125).map (fun i => (i.size, i.bytes, i.zero.map (·.cells))) = some (2, 32, some ⟨[.pointer none, .slice none 0 0]⟩) := by kernel_rfl
theorem ti126 : (Tryd.prog.info? 126).map (fun i => (i.size, i.bytes, i.zero.map (·.cells))) = some (1, 8, some ⟨[.nilFunc]⟩) := by kernel_rfl
theorem ti130 : (Tryd.prog.info? 130).map (fun i => (i.size, i.bytes, i.zero.map (·.cells))) = some (1, 8, some ⟨[.nilFunc]⟩) := by kernel_rfl
theorem ti131 : (Tryd.prog.info? 131).map (fun i => (i.size, i.bytes, i.zero.map (·.cells))) = some (1, 8, some ⟨[.nilFunc]⟩) := by kernel_rfl
theorem ti133 : (Tryd.prog.info? 133).map (fun i => (i.size, i.bytes, i.zero.map (·.cells))) = some (1, 8, some ⟨[.nilFunc]⟩) := by kernel_rfl
theorem ti134 : (Tryd.prog.info? 134).map (fun i => (i.size, i.bytes, i.zero.map (·.cells))) = some (1, 8, some ⟨[.nilFunc]⟩) := by kernel_rfl
theorem ti135 : (Tryd.prog.info? 135).map (fun i => (i.size, i.bytes, i.zero.map (·.cells))) = some (1, 8, some ⟨[.nilFunc]⟩) := by kernel_rfl
theorem ti136 : (Tryd.prog.info? 136).map (fun i => (i.size, i.bytes, i.zero.map (·.cells))) = some (24, 24, some ⟨[.int .u8 0, .int .u8 0, .int .u8 0, .int .u8 0, .int .u8 0, .int .u8 0, .int .u8 0, .int .u8 0, .int .u8 0, .int .u8 0, .int .u8 0, .int .u8 0, .int .u8 0, .int .u8 0, .int .u8 0, .int .u8 0, .int .u8 0, .int .u8 0, .int .u8 0, .int .u8 0, .int .u8 0, .int .u8 0, .int .u8 0, .int .u8 0]⟩) := by kernel_rfl
theorem ti137 : (Tryd.prog.info? 137).map (fun i => (i.size, i.bytes, i.zero.map (·.cells))) = some (1, 8, some ⟨[.int .u64 0]⟩) := by kernel_rfl
theorem ti138 : (Tryd.prog.info? 138).map (fun i => (i.size, i.bytes, i.zero.map (·.cells))) = some (1, 8, some ⟨[.nilFunc]⟩) := by kernel_rfl
theorem ti139 : (Tryd.prog.info? 139).map (fun i => (i.size, i.bytes, i.zero.map (·.cells))) = some (1, 8, some ⟨[.nilFunc]⟩) := by kernel_rfl
theorem ti141 : (Tryd.prog.info? 141).map (fun i => (i.size, i.bytes, i.zero.map (·.cells))) = some (1, 8, some ⟨[.nilFunc]⟩) := by kernel_rfl
theorem ti142 : (Tryd.prog.info? 142).map (fun i => (i.size, i.bytes, i.zero.map (·.cells))) = some (1, 8, some ⟨[.pointer none]⟩) := by kernel_rfl
theorem ti144 : (Tryd.prog.info? 144).map (fun i => (i.size, i.bytes, i.zero.map (·.cells))) = some (1, 8, some ⟨[.nilFunc]⟩) := by kernel_rfl
theorem ti145 : (Tryd.prog.info? 145).map (fun i => (i.size, i.bytes, i.zero.map (·.cells))) = some (1, 8, some ⟨[.nilFunc]⟩) := by kernel_rfl
theorem ti146 : (Tryd.prog.info? 146).map (fun i => (i.size, i.bytes, i.zero.map (·.cells))) = some (1, 8, some ⟨[.nilFunc]⟩) := by kernel_rfl
theorem ti147 : (Tryd.prog.info? 147).map (fun i => (i.size, i.bytes, i.zero.map (·.cells))) = some (1, 8, some ⟨[.int .u64 0]⟩) := by kernel_rfl
theorem ti148 : (Tryd.prog.info? 148).map (fun i => (i.size, i.bytes, i.zero.map (·.cells))) = some (1, 8, some ⟨[.nilFunc]⟩) := by kernel_rfl
theorem ti149 : (Tryd.prog.info? 149).map (fun i => (i.size, i.bytes, i.zero.map (·.cells))) = some (20, 160, some ⟨[.int .u64 0, .int .u64 0, .int .u64 0, .int .u64 0, .int .u64 0, .int .u64 0, .int .u64 0, .int .u64 0, .int .u64 0, .int .u64 0, .int .u64 0, .int .u64 0, .int .u64 0, .int .u64 0, .int .u64 0, .int .u64 0, .int .u64 0, .int .u64 0, .int .u64 0, .int .u64 0]⟩) := by kernel_rfl
theorem ti150 : (Tryd.prog.info? 150).map (fun i => (i.size, i.bytes, i.zero.map (·.cells))) = some (1, 4, some ⟨[.int .u32 0]⟩) := by kernel_rfl
theorem ti151 : (Tryd.prog.info? 151).map (fun i => (i.size, i.bytes, i.zero.map (·.cells))) = some (65, 65, some ⟨[.int .u8 0, .int .u8 0, .int .u8 0, .int .u8 0, .int .u8 0, .int .u8 0, .int .u8 0, .int .u8 0, .int .u8 0, .int .u8 0, .int .u8 0, .int .u8 0, .int .u8 0, .int .u8 0, .int .u8 0, .int .u8 0, .int .u8 0, .int .u8 0, .int .u8 0, .int .u8 0, .int .u8 0, .int .u8 0, .int .u8 0, .int .u8 0, .int .u8 0, .int .u8 0, .int .u8 0, .int .u8 0, .int .u8 0, .int .u8 0, .int .u8 0, .int .u8 0, .int .u8 0, .int .u8 0, .int .u8 0, .int .u8 0, .int .u8 0, .int .u8 0, .int .u8 0, .int .u8 0, .int .u8 0, .int .u8 0, .int .u8 0, .int .u8 0, .int .u8 0, .int .u8 0, .int .u8 0, .int .u8 0, .int .u8 0, .int .u8 0, .int .u8 0, .int .u8 0, .int .u8 0, .int .u8 0, .int .u8 0, .int .u8 0, .int .u8 0, .int .u8 0, .int .u8 0, .int .u8 0, .int .u8 0, .int .u8 0, .int .u8 0, .int .u8 0, .int .u8 0]⟩) := by kernel_rfl
theorem ti152 : (Tryd.prog.info? 152).map (fun i => (i.size, i.bytes, i.zero.map (·.cells))) = some (1, 8, some ⟨[.nilFunc]⟩) := by kernel_rfl
theorem ti154 : (Tryd.prog.info? 154).map (fun i => (i.size, i.bytes, i.zero.map (·.cells))) = some (1, 8, some ⟨[.nilFunc]⟩) := by kernel_rfl
theorem ti155 : (Tryd.prog.info? 155).map (fun i => (i.size, i.bytes, i.zero.map (·.cells))) = some (1, 8, some ⟨[.nilFunc]⟩) := by kernel_rfl
theorem ti157 : (Tryd.prog.info? 157).map (fun i => (i.size, i.bytes, i.zero.map (·.cells))) = some (1, 8, some ⟨[.nilFunc]⟩) := by kernel_rfl
theorem ti158 : (Tryd.prog.info? 158).map (fun i => (i.size, i.bytes, i.zero.map (·.cells))) = some (1, 8, some ⟨[.nilFunc]⟩) := by kernel_rfl
theorem ti159 : (Tryd.prog.info? 159).map (fun i => (i.size, i.bytes, i.zero.map (·.cells))) = some (256, 256, some ⟨[.int .u8 0, .int .u8 0, .int .u8 0, .int .u8 0, .int .u8 0, .int .u8 0, .int .u8 0, .int .u8 0, .int .u8 0, .int .u8 0, .int .u8 0, .int .u8 0, .int .u8 0, .int .u8 0, .int .u8 0, .int .u8 0, .int .u8 0, .int .u8 0, .int .u8 0, .int .u8 0, .int .u8 0, .int .u8 0, .int .u8 0, .int .u8 0, .int .u8 0, .int .u8 0, .int .u8 0, .int .u8 0, .int .u8 0, .int .u8 0, .int .u8 0, .int .u8 0, .int .u8 0, .int .u8 0, .int .u8 0, .int .u8 0, .int .u8 0, .int .u8 0, .int .u8 0, .int .u8 0, .int .u8 0, .int .u8 0, .int .u8 0, .int .u8 0, .int .u8 0, .int .u8 0, .int .u8 0, .int .u8 0, .int .u8 0, .int .u8 0, .int .u8 0, .int .u8 0, .int .u8 0, .int .u8 0, .int .u8 0, .int .u8 0, .int .u8 0, .int .u8 0, .int .u8 0, .int .u8 0, .int .u8 0, .int .u8 0, .int .u8 0, .int .u8 0, .int .u8 0, .int .u8 0, .int .u8 0, .int .u8 0, .int .u8 0, .int .u8 0, .int .u8 0, .int .u8 0, .int .u8 0, .int .u8 0, .int .u8 0, .int .u8 0, .int .u8 0, .int .u8 0, .int .u8 0, .int .u8 0, .int .u8 0, .int .u8 0, .int .u8 0, .int .u8 0, .int .u8 0, .int .u8 0, .int .u8 0, .int .u8 0, .int .u8 0, .int .u8 0, .int .u8 0, .int .u8 0, .int .u8 0, .int .u8 0, .int .u8 0, .int .u8 0, .int .u8 0, .int .u8 0, .int .u8 0, .int .u8 0, .int .u8 0, .int .u8 0, .int .u8 0, .int .u8 0, .int .u8 0, .int .u8 0, .int .u8 0, .int .u8 0, .int .u8 0, .int .u8 0, .int .u8 0, .int .u8 0, .int .u8 0, .int .u8 0, .int .u8 0, .int .u8 0, .int .u8 0, .int .u8 0, .int .u8 0, .int .u8 0, .int .u8 0, .int .u8 0, .int .u8 0, .int .u8 0, .int .u8 0, .int .u8 0, .int .u8 0, .int .u8 0, .int .u8 0, .int .u8 0, .int .u8 0, .int .u8 0, .int .u8 0, .int .u8 0, .int .u8 0, .int .u8 0, .int .u8 0, .int .u8 0, .int .u8 0, .int .u8 0, .int .u8 0, .int .u8 0, .int .u8 0, .int .u8 0, .int .u8 0, .int .u8 0, .int .u8 0, .int .u8 0, .int .u8 0, .int .u8 0, .int .u8 0, .int .u8 0, .int .u8 0, .int .u8 0, .int .u8 0, .int .u8 0, .int .u8 0, .int .u8 0, .int .u8 0, .int .u8 0, .int .u8 0, .int .u8 0, .int .u8 0, .int .u8 0, .int .u8 0, .int .u8 0, .int .u8 0, .int .u8 0, .int .u8 0, .int .u8 0, .int .u8 0, .int .u8 0, .int .u8 0, .int .u8 0, .int .u8 0, .int .u8 0, .int .u8 0, .int .u8 0, .int .u8 0, .int .u8 0, .int .u8 0, .int .u8 0, .int .u8 0, .int .u8 0, .int .u8 0, .int .u8 0, .int .u8 0, .int .u8 0, .int .u8 0, .int .u8 0, .int .u8 0, .int .u8 0, .int .u8 0, .int .u8 0, .int .u8 0, .int .u8 0, .int .u8 0, .int .u8 0, .int .u8 0, .int .u8 0, .int .u8 0, .int .u8 0, .int .u8 0, .int .u8 0, .int .u8 0, .int .u8 0, .int .u8 0, .int .u8 0, .int .u8 0, .int .u8 0, .int .u8 0, .int .u8 0, .int .u8 0, .int .u8 0, .int .u8 0, .int .u8 0, .int .u8 0, .int .u8 0, .int .u8 0, .int .u8 0, .int .u8 0, .int .u8 0, .int .u8 0, .int .u8 0, .int .u8 0, .int .u8 0, .int .u8 0, .int .u8 0, .int .u8 0, .int .u8 0, .int .u8 0, .int .u8 0, .int .u8 0, .int .u8 0, .int .u8 0, .int .u8 0, .int .u8 0, .int .u8 0, .int .u8 0, .int .u8 0, .int .u8 0, .int .u8 0, .int .u8 0, .int .u8 0, .int .u8 0, .int .u8 0, .int .u8 0, .int .u8 0, .int .u8 0, .int .u8 0, .int .u8 0, .int .u8 0, .int .u8 0, .int .u8 0, .int .u8 0, .int .u8 0]⟩) := by kernel_rfl
theorem ti160 : (Tryd.prog.info? 160).map (fun i => (i.size, i.bytes, i.zero.map (·.cells))) = some (2, 2, some ⟨[.int .u8 0, .int .u8 0]⟩) := by kernel_rfl
theorem ti161 : (Tryd.prog.info? 161).map (fun i => (i.size, i.bytes, i.zero.map (·.cells))) = some (2, 2, some ⟨[.int .u8 0, .int .u8 0]⟩) := by kernel_rfl
theorem ti162 : (Tryd.prog.info? 162).map (fun i => (i.size, i.bytes, i.zero.map (·.cells))) = some (32, 32, some ⟨[.int .u8 0, .int .u8 0, .int .u8 0, .int .u8 0, .int .u8 0, .int .u8 0, .int .u8 0, .int .u8 0, .int .u8 0, .int .u8 0, .int .u8 0, .int .u8 0, .int .u8 0, .int .u8 0, .int .u8 0, .int .u8 0, .int .u8 0, .int .u8 0, .int .u8 0, .int .u8 0, .int .u8 0, .int .u8 0, .int .u8 0, .int .u8 0, .int .u8 0, .int .u8 0, .int .u8 0, .int .u8 0, .int .u8 0, .int .u8 0, .int .u8 0, .int .u8 0]⟩) := by kernel_rfl
theorem ti163 : (Tryd.prog.info? 163).map (fun i => (i.size, i.bytes, i.zero.map (·.cells))) = some (32, 32, some ⟨[.int .u8 0, .int .u8 0, .int .u8 0, .int .u8 0, .int .u8 0, .int .u8 0, .int .u8 0, .int .u8 0, .int .u8 0, .int .u8 0, .int .u8 0, .int .u8 0, .int .u8 0, .int .u8 0, .int .u8 0, .int .u8 0, .int .u8 0, .int .u8 0, .int .u8 0, .int .u8 0, .int .u8 0, .int .u8 0, .int .u8 0, .int .u8 0, .int .u8 0, .int .u8 0, .int .u8 0, .int .u8 0, .int .u8 0, .int .u8 0, .int .u8 0, .int .u8 0]⟩) := by kernel_rfl
theorem ti164 : (Tryd.prog.info? 164).map (fun i => (i.size, i.bytes, i.zero.map (·.cells))) = some (64, 64, some ⟨[.int .u8 0, .int .u8 0, .int .u8 0, .int .u8 0, .int .u8 0, .int .u8 0, .int .u8 0, .int .u8 0, .int .u8 0, .int .u8 0, .int .u8 0, .int .u8 0, .int .u8 0, .int .u8 0, .int .u8 0, .int .u8 0, .int .u8 0, .int .u8 0, .int .u8 0, .int .u8 0, .int .u8 0, .int .u8 0, .int .u8 0, .int .u8 0, .int .u8 0, .int .u8 0, .int .u8 0, .int .u8 0, .int .u8 0, .int .u8 0, .int .u8 0, .int .u8 0, .int .u8 0, .int .u8 0, .int .u8 0, .int .u8 0, .int .u8 0, .int .u8 0, .int .u8 0, .int .u8 0, .int .u8 0, .int .u8 0, .int .u8 0, .int .u8 0, .int .u8 0, .int .u8 0, .int .u8 0, .int .u8 0, .int .u8 0, .int .u8 0, .int .u8 0, .int .u8 0, .int .u8 0, .int .u8 0, .int .u8 0, .int .u8 0, .int .u8 0, .int .u8 0, .int .u8 0, .int .u8 0, .int .u8 0, .int .u8 0, .int .u8 0, .int .u8 0]⟩) := by kernel_rfl
theorem ti165 : (Tryd.prog.info? 165).map (fun i => (i.size, i.bytes, i.zero.map (·.cells))) = some (4, 40, some ⟨[.pointer none, .pointer none, .pointer none, .string .empty]⟩) := by kernel_rfl
theorem ti166 : (Tryd.prog.info? 166).map (fun i => (i.size, i.bytes, i.zero.map (·.cells))) = some (4, 40, some ⟨[.pointer none, .pointer none, .pointer none, .string .empty]⟩) := by kernel_rfl
theorem ti170 : (Tryd.prog.info? 170).map (fun i => (i.size, i.bytes, i.zero.map (·.cells))) = some (1, 1, some ⟨[.int .u8 0]⟩) := by kernel_rfl
theorem ti171 : (Tryd.prog.info? 171).map (fun i => (i.size, i.bytes, i.zero.map (·.cells))) = some (1, 1, some ⟨[.int .u8 0]⟩) := by kernel_rfl
theorem ti172 : (Tryd.prog.info? 172).map (fun i => (i.size, i.bytes, i.zero.map (·.cells))) = some (1, 8, some ⟨[.nilFunc]⟩) := by kernel_rfl
theorem ti173 : (Tryd.prog.info? 173).map (fun i => (i.size, i.bytes, i.zero.map (·.cells))) = some (1, 4, some ⟨[.int .i32 0]⟩) := by kernel_rfl
theorem ti174 : (Tryd.prog.info? 174).map (fun i => (i.size, i.bytes, i.zero.map (·.cells))) = some (1, 4, some ⟨[.int .i32 0]⟩) := by kernel_rfl
theorem ti175 : (Tryd.prog.info? 175).map (fun i => (i.size, i.bytes, i.zero.map (·.cells))) = some (11, 48, some ⟨[.int .u64 0, .int .u64 0, .int .u32 0, .int .u8 0, .int .u8 0, .int .u8 0, .int .u8 0, .nilFunc, .pointer none, .int .i32 0, .int .i32 0]⟩) := by kernel_rfl
theorem ti176 : (Tryd.prog.info? 176).map (fun i => (i.size, i.bytes, i.zero.map (·.cells))) = some (11, 48, some ⟨[.int .u64 0, .int .u64 0, .int .u32 0, .int .u8 0, .int .u8 0, .int .u8 0, .int .u8 0, .nilFunc, .pointer none, .int .i32 0, .int .i32 0]⟩) := by kernel_rfl

theorem tok_of {t s b : Nat} {d : TypeDesc} {z : List Value} {c : List TypeDesc} (h1 : Tryd.prog.underlying t = some d) (h2 : (Tryd.prog.info? t).map (fun i => (i.size, i.bytes, i.zero.map (·.cells))) = some (s, b, some ⟨z⟩)) (h3 : z.length = s) (h4 : z.all flat0 = true) (h5 : c ≠ [] → CmpOk Tryd.prog t c) :
    Tryd.prog.underlying t = some d ∧ ∃ i, Tryd.prog.info? t = some i ∧ i.size = s ∧ i.bytes = b ∧ (∃ v, i.zero = some v ∧ v.cells = ⟨z⟩) ∧ z.length = s ∧ z.all flat0 = true ∧ (c ≠ [] → CmpOk Tryd.prog t c) := by
  refine ⟨h1, ?_⟩
  cases e : Tryd.prog.info? t with
  | none => rw [e] at h2; cases h2
  | some i =>
    rw [e] at h2
    simp only [Option.map_some, Option.some.injEq, Prod.mk.injEq] at h2
    refine ⟨i, rfl, h2.1, h2.2.1, ?_, h3, h4, h5⟩
    cases e2 : i.zero with
    | none => rw [e2] at h2; cases h2.2.2
    | some v => rw [e2] at h2; exact ⟨v, rfl, Option.some.inj h2.2.2⟩

theorem cm22 : CmpOk Tryd.prog 22 [.string, .string] := cmp_ok (f := 20) (by kernel_rfl) (by kernel_rfl) (by omega) (by kernel_rfl) (by kernel_rfl)
theorem cm23 : CmpOk Tryd.prog 23 [.string, .string] := cmp_ok (f := 20) (by kernel_rfl) (by kernel_rfl) (by omega) (by kernel_rfl) (by kernel_rfl)
theorem cm27 : CmpOk Tryd.prog 27 [.string, .string] := cmp_ok (f := 20) (by kernel_rfl) (by kernel_rfl) (by omega) (by kernel_rfl) (by kernel_rfl)
theorem cm30 : CmpOk Tryd.prog 30 [.int .i64, .int .i64, .int .i64, .int .i64] := cmp_ok (f := 20) (by kernel_rfl) (by kernel_rfl) (by omega) (by kernel_rfl) (by kernel_rfl)
theorem cm31 : CmpOk Tryd.prog 31 [.int .i64, .int .i64, .int .i64, .int .i64] := cmp_ok (f := 20) (by kernel_rfl) (by kernel_rfl) (by omega) (by kernel_rfl) (by kernel_rfl)
theorem cm32 : CmpOk Tryd.prog 32 [.int .i64, .int .i64, .int .i64, .int .i64] := cmp_ok (f := 20) (by kernel_rfl) (by kernel_rfl) (by omega) (by kernel_rfl) (by kernel_rfl)
theorem cm35 : CmpOk Tryd.prog 35 [.int .i64, .int .i64, .int .i64, .int .i64] := cmp_ok (f := 20) (by kernel_rfl) (by kernel_rfl) (by omega) (by kernel_rfl) (by kernel_rfl)
theorem cm40 : CmpOk Tryd.prog 40 [.string, .string, .int .i64] := cmp_ok (f := 20) (by kernel_rfl) (by kernel_rfl) (by omega) (by kernel_rfl) (by kernel_rfl)
theorem cm41 : CmpOk Tryd.prog 41 [.string, .string, .int .i64] := cmp_ok (f := 20) (by kernel_rfl) (by kernel_rfl) (by omega) (by kernel_rfl) (by kernel_rfl)
theorem cm46 : CmpOk Tryd.prog 46 [.string, .string, .int .i64] := cmp_ok (f := 20) (by kernel_rfl) (by kernel_rfl) (by omega) (by kernel_rfl) (by kernel_rfl)
theorem cm63 : CmpOk Tryd.prog 63 [.int .i64, .int .i64, .int .i64, .int .i64, .int .i64, .int .i64, .int .i64, .int .i64, .int .i64, .int .i64, .int .i64] := cmp_ok (f := 20) (by kernel_rfl) (by kernel_rfl) (by omega) (by kernel_rfl) (by kernel_rfl)
theorem cm64 : CmpOk Tryd.prog 64 [.int .i64, .int .i64, .int .i64, .int .i64, .int .i64, .int .i64, .int .i64, .int .i64, .int .i64, .int .i64, .int .i64] := cmp_ok (f := 20) (by kernel_rfl) (by kernel_rfl) (by omega) (by kernel_rfl) (by kernel_rfl)
theorem cm65 : CmpOk Tryd.prog 65 [.int .i64, .int .i64, .int .i64, .int .i64, .int .i64, .int .i64, .int .i64, .int .i64, .int .i64, .int .i64, .int .i64, .string, .string, .int .i64] := cmp_ok (f := 20) (by kernel_rfl) (by kernel_rfl) (by omega) (by kernel_rfl) (by kernel_rfl)
theorem cm66 : CmpOk Tryd.prog 66 [.int .i64, .int .i64, .int .i64, .int .i64, .int .i64, .int .i64, .int .i64, .int .i64, .int .i64, .int .i64, .int .i64, .string, .string, .int .i64] := cmp_ok (f := 20) (by kernel_rfl) (by kernel_rfl) (by omega) (by kernel_rfl) (by kernel_rfl)
theorem cm69 : CmpOk Tryd.prog 69 [.int .i64, .int .i64, .int .i64, .int .i64, .int .i64, .int .i64, .int .i64, .int .i64, .int .i64, .int .i64, .int .i64] := cmp_ok (f := 20) (by kernel_rfl) (by kernel_rfl) (by omega) (by kernel_rfl) (by kernel_rfl)
theorem cm70 : CmpOk Tryd.prog 70 [.int .i64, .int .i64, .int .i64, .int .i64, .int .i64, .int .i64, .int .i64, .int .i64, .int .i64, .int .i64, .int .i64] := cmp_ok (f := 20) (by kernel_rfl) (by kernel_rfl) (by omega) (by kernel_rfl) (by kernel_rfl)
theorem cm71 : CmpOk Tryd.prog 71 [.int .i64, .int .i64, .int .i64, .int .i64, .int .i64, .int .i64, .int .i64, .int .i64, .int .i64, .int .i64, .int .i64, .string, .string, .int .i64] := cmp_ok (f := 20) (by kernel_rfl) (by kernel_rfl) (by omega) (by kernel_rfl) (by kernel_rfl)
theorem cm72 : CmpOk Tryd.prog 72 [.int .i64, .int .i64, .int .i64, .int .i64, .int .i64, .int .i64, .int .i64, .int .i64, .int .i64, .int .i64, .int .i64, .string, .string, .int .i64] := cmp_ok (f := 20) (by kernel_rfl) (by kernel_rfl) (by omega) (by kernel_rfl) (by kernel_rfl)
theorem cm136 : CmpOk Tryd.prog 136 [.int .u8, .int .u8, .int .u8, .int .u8, .int .u8, .int .u8, .int .u8, .int .u8, .int .u8, .int .u8, .int .u8, .int .u8, .int .u8, .int .u8, .int .u8, .int .u8, .int .u8, .int .u8, .int .u8, .int .u8, .int .u8, .int .u8, .int .u8, .int .u8] := cmp_ok (f := 20) (by kernel_rfl) (by kernel_rfl) (by omega) (by kernel_rfl) (by kernel_rfl)
theorem cm160 : CmpOk Tryd.prog 160 [.int .u8, .int .u8] := cmp_ok (f := 20) (by kernel_rfl) (by kernel_rfl) (by omega) (by kernel_rfl) (by kernel_rfl)
theorem cm161 : CmpOk Tryd.prog 161 [.int .u8, .int .u8] := cmp_ok (f := 20) (by kernel_rfl) (by kernel_rfl) (by omega) (by kernel_rfl) (by kernel_rfl)
set_option maxRecDepth 20000 in
theorem T_ok : TOk Tryd.prog T := by
  intro t ti h
  unfold T at h
  split at h
  · obtain rfl := Option.some.inj h; exact tok_of Tryd.underlying1 ti1 rfl rfl (fun h => absurd rfl h)
  · obtain rfl := Option.some.inj h; exact tok_of Tryd.underlying2 ti2 rfl rfl (fun h => absurd rfl h)
  · obtain rfl := Option.some.inj h; exact tok_of Tryd.underlying3 ti3 rfl rfl (fun h => absurd rfl h)
  · obtain rfl := Option.some.inj h; exact tok_of Tryd.underlying4 ti4 rfl rfl (fun h => absurd rfl h)
  · obtain rfl := Option.some.inj h; exact tok_of Tryd.underlying5 ti5 rfl rfl (fun h => absurd rfl h)
  · obtain rfl := Option.some.inj h; exact tok_of Tryd.underlying6 ti6 rfl rfl (fun h => absurd rfl h)
  · obtain rfl := Option.some.inj h; exact tok_of Tryd.underlying7 ti7 rfl rfl (fun h => absurd rfl h)
  · obtain rfl := Option.some.inj h; exact tok_of Tryd.underlying8 ti8 rfl rfl (fun h => absurd rfl h)
  · obtain rfl := Option.some.inj h; exact tok_of Tryd.underlying9 ti9 rfl rfl (fun h => absurd rfl h)
  · obtain rfl := Option.some.inj h; exact tok_of Tryd.underlying10 ti10 rfl rfl (fun h => absurd rfl h)
  · obtain rfl := Option.some.inj h; exact tok_of Tryd.underlying11 ti11 rfl rfl (fun h => absurd rfl h)
  · obtain rfl := Option.some.inj h; exact tok_of Tryd.underlying12 ti12 rfl rfl (fun h => absurd rfl h)
  · obtain rfl := Option.some.inj h; exact tok_of Tryd.underlying13 ti13 rfl rfl (fun h => absurd rfl h)
  · obtain rfl := Option.some.inj h; exact tok_of Tryd.underlying14 ti14 rfl rfl (fun h => absurd rfl h)
  · obtain rfl := Option.some.inj h; exact tok_of Tryd.underlying15 ti15 rfl rfl (fun h => absurd rfl h)
  · obtain rfl := Option.some.inj h; exact tok_of Tryd.underlying16 ti16 rfl rfl (fun h => absurd rfl h)
  · obtain rfl := Option.some.inj h; exact tok_of Tryd.underlying17 ti17 rfl rfl (fun h => absurd rfl h)
  · obtain rfl := Option.some.inj h; exact tok_of Tryd.underlying18 ti18 rfl rfl (fun h => absurd rfl h)
  · obtain rfl := Option.some.inj h; exact tok_of Tryd.underlying19 ti19 rfl rfl (fun h => absurd rfl h)
  · obtain rfl := Option.some.inj h; exact tok_of Tryd.underlying21 ti21 rfl rfl (fun h => absurd rfl h)
  · obtain rfl := Option.some.inj h; exact tok_of Tryd.underlying22 ti22 rfl rfl (fun _ => cm22)
  · obtain rfl := Option.some.inj h; exact tok_of Tryd.underlying23 ti23 rfl rfl (fun _ => cm23)
  · obtain rfl := Option.some.inj h; exact tok_of Tryd.underlying24 ti24 rfl rfl (fun h => absurd rfl h)
  · obtain rfl := Option.some.inj h; exact tok_of Tryd.underlying26 ti26 rfl rfl (fun h => absurd rfl h)
  · obtain rfl := Option.some.inj h; exact tok_of Tryd.underlying27 ti27 rfl rfl (fun _ => cm27)
  · obtain rfl := Option.some.inj h; exact tok_of Tryd.underlying28 ti28 rfl rfl (fun h => absurd rfl h)
  · obtain rfl := Option.some.inj h; exact tok_of Tryd.underlying29 ti29 rfl rfl (fun h => absurd rfl h)
  · obtain rfl := Option.some.inj h; exact tok_of Tryd.underlying30 ti30 rfl rfl (fun _ => cm30)
  · obtain rfl := Option.some.inj h; exact tok_of Tryd.underlying31 ti31 rfl rfl (fun _ => cm31)
  · obtain rfl := Option.some.inj h; exact tok_of Tryd.underlying32 ti32 rfl rfl (fun _ => cm32)
  · obtain rfl := Option.some.inj h; exact tok_of Tryd.underlying33 ti33 rfl rfl (fun h => absurd rfl h)
  · obtain rfl := Option.some.inj h; exact tok_of Tryd.underlying34 ti34 rfl rfl (fun h => absurd rfl h)
  · obtain rfl := Option.some.inj h; exact tok_of Tryd.underlying35 ti35 rfl rfl (fun _ => cm35)
  · obtain rfl := Option.some.inj h; exact tok_of Tryd.underlying36 ti36 rfl rfl (fun h => absurd rfl h)
  · obtain rfl := Option.some.inj h; exact tok_of Tryd.underlying37 ti37 rfl rfl (fun h => absurd rfl h)
  · obtain rfl := Option.some.inj h; exact tok_of Tryd.underlying38 ti38 rfl rfl (fun h => absurd rfl h)
  · obtain rfl := Option.some.inj h; exact tok_of Tryd.underlying39 ti39 rfl rfl (fun h => absurd rfl h)
  · obtain rfl := Option.some.inj h; exact tok_of Tryd.underlying40 ti40 rfl rfl (fun _ => cm40)
  · obtain rfl := Option.some.inj h; exact tok_of Tryd.underlying41 ti41 rfl rfl (fun _ => cm41)
  · obtain rfl := Option.some.inj h; exact tok_of Tryd.underlying43 ti43 rfl rfl (fun h => absurd rfl h)
  · obtain rfl := Option.some.inj h; exact tok_of Tryd.underlying44 ti44 rfl rfl (fun h => absurd rfl h)
  · obtain rfl := Option.some.inj h; exact tok_of Tryd.underlying45 ti45 rfl rfl (fun h => absurd rfl h)
  · obtain rfl := Option.some.inj h; exact tok_of Tryd.underlying46 ti46 rfl rfl (fun _ => cm46)
  · obtain rfl := Option.some.inj h; exact tok_of Tryd.underlying47 ti47 rfl rfl (fun h => absurd rfl h)
  · obtain rfl := Option.some.inj h; exact tok_of Tryd.underlying48 ti48 rfl rfl (fun h => absurd rfl h)
  · obtain rfl := Option.some.inj h; exact tok_of Tryd.underlying49 ti49 rfl rfl (fun h => absurd rfl h)
  · obtain rfl := Option.some.inj h; exact tok_of Tryd.underlying50 ti50 rfl rfl (fun h => absurd rfl h)
  · obtain rfl := Option.some.inj h; exact tok_of Tryd.underlying51 ti51 rfl rfl (fun h => absurd rfl h)
  · obtain rfl := Option.some.inj h; exact tok_of Tryd.underlying52 ti52 rfl rfl (fun h => absurd rfl h)
  · obtain rfl := Option.some.inj h; exact tok_of Tryd.underlying54 ti54 rfl rfl (fun h => absurd rfl h)
  · obtain rfl := Option.some.inj h; exact tok_of Tryd.underlying56 ti56 rfl rfl (fun h => absurd rfl h)
  · obtain rfl := Option.some.inj h; exact tok_of Tryd.underlying57 ti57 rfl rfl (fun h => absurd rfl h)
  · obtain rfl := Option.some.inj h; exact tok_of Tryd.underlying58 ti58 rfl rfl (fun h => absurd rfl h)
  · obtain rfl := Option.some.inj h; exact tok_of Tryd.underlying60 ti60 rfl rfl (fun h => absurd rfl h)
  · obtain rfl := Option.some.inj h; exact tok_of Tryd.underlying61 ti61 rfl rfl (fun h => absurd rfl h)
  · obtain rfl := Option.some.inj h; exact tok_of Tryd.underlying62 ti62 rfl rfl (fun h => absurd rfl h)
  · obtain rfl := Option.some.inj h; exact tok_of Tryd.underlying63 ti63 rfl rfl (fun _ => cm63)
  · obtain rfl := Option.some.inj h; exact tok_of Tryd.underlying64 ti64 rfl rfl (fun _ => cm64)
  · obtain rfl := Option.some.inj h; exact tok_of Tryd.underlying65 ti65 rfl rfl (fun _ => cm65)
  · obtain rfl := Option.some.inj h; exact tok_of Tryd.underlying66 ti66 rfl rfl (fun _ => cm66)
  · obtain rfl := Option.some.inj h; exact tok_of Tryd.underlying67 ti67 rfl rfl (fun h => absurd rfl h)
  · obtain rfl := Option.some.inj h; exact tok_of Tryd.underlying68 ti68 rfl rfl (fun h => absurd rfl h)
  · obtain rfl := Option.some.inj h; exact tok_of Tryd.underlying69 ti69 rfl rfl (fun _ => cm69)
  · obtain rfl := Option.some.inj h; exact tok_of Tryd.underlying70 ti70 rfl rfl (fun _ => cm70)
  · obtain rfl := Option.some.inj h; exact tok_of Tryd.underlying71 ti71 rfl rfl (fun _ => cm71)
  · obtain rfl := Option.some.inj h; exact tok_of Tryd.underlying72 ti72 rfl rfl (fun _ => cm72)
  · obtain rfl := Option.some.inj h; exact tok_of Tryd.underlying73 ti73 rfl rfl (fun h => absurd rfl h)
  · obtain rfl := Option.some.inj h; exact tok_of Tryd.underlying74 ti74 rfl rfl (fun h => absurd rfl h)
  · obtain rfl := Option.some.inj h; exact tok_of Tryd.underlying76 ti76 rfl rfl (fun h => absurd rfl h)
  · obtain rfl := Option.some.inj h; exact tok_of Tryd.underlying77 ti77 rfl rfl (fun h => absurd rfl h)
  · obtain rfl := Option.some.inj h; exact tok_of Tryd.underlying78 ti78 rfl rfl (fun h => absurd rfl h)
  · obtain rfl := Option.some.inj h; exact tok_of Tryd.underlying79 ti79 rfl rfl (fun h => absurd rfl h)
  · obtain rfl := Option.some.inj h; exact tok_of Tryd.underlying80 ti80 rfl rfl (fun h => absurd rfl h)
  · obtain rfl := Option.some.inj h; exact tok_of Tryd.underlying81 ti81 rfl rfl (fun h => absurd rfl h)
  · obtain rfl := Option.some.inj h; exact tok_of Tryd.underlying82 ti82 rfl rfl (fun h => absurd rfl h)
  · obtain rfl := Option.some.inj h; exact tok_of Tryd.underlying83 ti83 rfl rfl (fun h => absurd rfl h)
  · obtain rfl := Option.some.inj h; exact tok_of Tryd.underlying84 ti84 rfl rfl (fun h => absurd rfl h)
  · obtain rfl := Option.some.inj h; exact tok_of Tryd.underlying85 ti85 rfl rfl (fun h => absurd rfl h)
  · obtain rfl := Option.some.inj h; exact tok_of Tryd.underlying86 ti86 rfl rfl (fun h => absurd rfl h)
  · obtain rfl := Option.some.inj h; exact tok_of Tryd.underlying87 ti87 rfl rfl (fun h => absurd rfl h)
  · obtain rfl := Option.some.inj h; exact tok_of Tryd.underlying88 ti88 rfl rfl (fun h => absurd rfl h)
  · obtain rfl := Option.some.inj h; exact tok_of Tryd.underlying90 ti90 rfl rfl (fun h => absurd rfl h)
  · obtain rfl := Option.some.inj h; exact tok_of Tryd.underlying92 ti92 rfl rfl (fun h => absurd rfl h)
  · obtain rfl := Option.some.inj h; exact tok_of Tryd.underlying93 ti93 rfl rfl (fun h => absurd rfl h)
  · obtain rfl := Option.some.inj h; exact tok_of Tryd.underlying94 ti94 rfl rfl (fun h => absurd rfl h)
  · obtain rfl := Option.some.inj h; exact tok_of Tryd.underlying95 ti95 rfl rfl (fun h => absurd rfl h)
  · obtain rfl := Option.some.inj h; exact tok_of Tryd.underlying96 ti96 rfl rfl (fun h => absurd rfl h)
  · obtain rfl := Option.some.inj h; exact tok_of Tryd.underlying97 ti97 rfl rfl (fun h => absurd rfl h)
  · obtain rfl := Option.some.inj h; exact tok_of Tryd.underlying98 ti98 rfl rfl (fun h => absurd rfl h)
  · obtain rfl := Option.some.inj h; exact tok_of Tryd.underlying99 ti99 rfl rfl (fun h => absurd rfl h)
  · obtain rfl := Option.some.inj h; exact tok_of Tryd.underlying100 ti100 rfl rfl (fun h => absurd rfl h)
  · obtain rfl := Option.some.inj h; exact tok_of Tryd.underlying101 ti101 rfl rfl (fun h => absurd rfl h)
  · obtain rfl := Option.some.inj h; exact tok_of Tryd.underlying102 ti102 rfl rfl (fun h => absurd rfl h)
  · obtain rfl := Option.some.inj h; exact tok_of Tryd.underlying103 ti103 rfl rfl (fun h => absurd rfl h)
  · obtain rfl := Option.some.inj h; exact tok_of Tryd.underlying104 ti104 rfl rfl (fun h => absurd rfl h)
  · obtain rfl := Option.some.inj h; exact tok_of Tryd.underlying106 ti106 rfl rfl (fun h => absurd rfl h)
  · obtain rfl := Option.some.inj h; exact tok_of Tryd.underlying107 ti107 rfl rfl (fun h => absurd rfl h)
  · obtain rfl := Option.some.inj h; exact tok_of Tryd.underlying108 ti108 rfl rfl (fun h => absurd rfl h)
  · obtain rfl := Option.some.inj h; exact tok_of Tryd.underlying109 ti109 rfl rfl (fun h => absurd rfl h)
  · obtain rfl := Option.some.inj h; exact tok_of Tryd.underlying110 ti110 rfl rfl (fun h => absurd rfl h)
  · obtain rfl := Option.some.inj h; exact tok_of Tryd.underlying112 ti112 rfl rfl (fun h => absurd rfl h)
  · obtain rfl := Option.some.inj h; exact tok_of Tryd.underlying114 ti114 rfl rfl (fun h => absurd rfl h)
  · obtain rfl := Option.some.inj h; exact tok_of Tryd.underlying115 ti115 rfl rfl (fun h => absurd rfl h)
  · obtain rfl := Option.some.inj h; exact tok_of Tryd.underlying116 ti116 rfl rfl (fun h => absurd rfl h)
  · obtain rfl := Option.some.inj h; exact tok_of Tryd.underlying117 ti117 rfl rfl (fun h => absurd rfl h)
  · obtain rfl := Option.some.inj h; exact tok_of Tryd.underlying118 ti118 rfl rfl (fun h => absurd rfl h)
  · obtain rfl := Option.some.inj h; exact tok_of Tryd.underlying119 ti119 rfl rfl (fun h => absurd rfl h)
  · obtain rfl := Option.some.inj h; exact tok_of Tryd.underlying120 ti120 rfl rfl (fun h => absurd rfl h)
  · obtain rfl := Option.some.inj h; exact tok_of Tryd.underlying121 ti121 rfl rfl (fun h => absurd rfl h)
  · obtain rfl := Option.some.inj h; exact tok_of Tryd.underlying122 ti122 rfl rfl (fun h => absurd rfl h)
  · obtain rfl := Option.some.inj h; exact tok_of Tryd.underlying123 ti123 rfl rfl (fun h => absurd rfl h)
  · obtain rfl := Option.some.inj h; exact tok_of Tryd.underlying124 ti124 rfl rfl (fun h => absurd rfl h)
  · obtain rfl := Option.some.inj h; exact tok_of Tryd.underlying125 ti125 rfl rfl (fun h => absurd rfl h)
  · obtain rfl := Option.some.inj h; exact tok_of Tryd.underlying126 ti126 rfl rfl (fun h => absurd rfl h)
  · obtain rfl := Option.some.inj h; exact tok_of Tryd.underlying130 ti130 rfl rfl (fun h => absurd rfl h)
  · obtain rfl := Option.some.inj h; exact tok_of Tryd.underlying131 ti131 rfl rfl (fun h => absurd rfl h)
  · obtain rfl := Option.some.inj h; exact tok_of Tryd.underlying133 ti133 rfl rfl (fun h => absurd rfl h)
  · obtain rfl := Option.some.inj h; exact tok_of Tryd.underlying134 ti134 rfl rfl (fun h => absurd rfl h)
  · obtain rfl := Option.some.inj h; exact tok_of Tryd.underlying135 ti135 rfl rfl (fun h => absurd rfl h)
  · obtain rfl := Option.some.inj h; exact tok_of Tryd.underlying136 ti136 rfl rfl (fun _ => cm136)
  · obtain rfl := Option.some.inj h; exact tok_of Tryd.underlying137 ti137 rfl rfl (fun h => absurd rfl h)
  · obtain rfl := Option.some.inj h; exact tok_of Tryd.underlying138 ti138 rfl rfl (fun h => absurd rfl h)
  · obtain rfl := Option.some.inj h; exact tok_of Tryd.underlying139 ti139 rfl rfl (fun h => absurd rfl h)
  · obtain rfl := Option.some.inj h; exact tok_of Tryd.underlying141 ti141 rfl rfl (fun h => absurd rfl h)
  · obtain rfl := Option.some.inj h; exact tok_of Tryd.underlying142 ti142 rfl rfl (fun h => absurd rfl h)
  · obtain rfl := Option.some.inj h; exact tok_of Tryd.underlying144 ti144 rfl rfl (fun h => absurd rfl h)
  · obtain rfl := Option.some.inj h; exact tok_of Tryd.underlying145 ti145 rfl rfl (fun h => absurd rfl h)
  · obtain rfl := Option.some.inj h; exact tok_of Tryd.underlying146 ti146 rfl rfl (fun h => absurd rfl h)
  · obtain rfl := Option.some.inj h; exact tok_of Tryd.underlying147 ti147 rfl rfl (fun h => absurd rfl h)
  · obtain rfl := Option.some.inj h; exact tok_of Tryd.underlying148 ti148 rfl rfl (fun h => absurd rfl h)
  · obtain rfl := Option.some.inj h; exact tok_of Tryd.underlying149 ti149 rfl rfl (fun h => absurd rfl h)
  · obtain rfl := Option.some.inj h; exact tok_of Tryd.underlying150 ti150 rfl rfl (fun h => absurd rfl h)
  · obtain rfl := Option.some.inj h; exact tok_of Tryd.underlying151 ti151 rfl rfl (fun h => absurd rfl h)
  · obtain rfl := Option.some.inj h; exact tok_of Tryd.underlying152 ti152 rfl rfl (fun h => absurd rfl h)
  · obtain rfl := Option.some.inj h; exact tok_of Tryd.underlying154 ti154 rfl rfl (fun h => absurd rfl h)
  · obtain rfl := Option.some.inj h; exact tok_of Tryd.underlying155 ti155 rfl rfl (fun h => absurd rfl h)
  · obtain rfl := Option.some.inj h; exact tok_of Tryd.underlying157 ti157 rfl rfl (fun h => absurd rfl h)
  · obtain rfl := Option.some.inj h; exact tok_of Tryd.underlying158 ti158 rfl rfl (fun h => absurd rfl h)
  · obtain rfl := Option.some.inj h; exact tok_of Tryd.underlying159 ti159 rfl rfl (fun h => absurd rfl h)
  · obtain rfl := Option.some.inj h; exact tok_of Tryd.underlying160 ti160 rfl rfl (fun _ => cm160)
  · obtain rfl := Option.some.inj h; exact tok_of Tryd.underlying161 ti161 rfl rfl (fun _ => cm161)
  · obtain rfl := Option.some.inj h; exact tok_of Tryd.underlying162 ti162 rfl rfl (fun h => absurd rfl h)
  · obtain rfl := Option.some.inj h; exact tok_of Tryd.underlying163 ti163 rfl rfl (fun h => absurd rfl h)
  · obtain rfl := Option.some.inj h; exact tok_of Tryd.underlying164 ti164 rfl rfl (fun h => absurd rfl h)
  · obtain rfl := Option.some.inj h; exact tok_of Tryd.underlying165 ti165 rfl rfl (fun h => absurd rfl h)
  · obtain rfl := Option.some.inj h; exact tok_of Tryd.underlying166 ti166 rfl rfl (fun h => absurd rfl h)
  · obtain rfl := Option.some.inj h; exact tok_of Tryd.underlying170 ti170 rfl rfl (fun h => absurd rfl h)
  · obtain rfl := Option.some.inj h; exact tok_of Tryd.underlying171 ti171 rfl rfl (fun h => absurd rfl h)
  · obtain rfl := Option.some.inj h; exact tok_of Tryd.underlying172 ti172 rfl rfl (fun h => absurd rfl h)
  · obtain rfl := Option.some.inj h; exact tok_of Tryd.underlying173 ti173 rfl rfl (fun h => absurd rfl h)
  · obtain rfl := Option.some.inj h; exact tok_of Tryd.underlying174 ti174 rfl rfl (fun h => absurd rfl h)
  · obtain rfl := Option.some.inj h; exact tok_of Tryd.underlying175 ti175 rfl rfl (fun h => absurd rfl h)
  · obtain rfl := Option.some.inj h; exact tok_of Tryd.underlying176 ti176 rfl rfl (fun h => absurd rfl h)
  · cases h

theorem mixed : Tryd.prog.follows .mixedOrders = true := by kernel_rfl
noncomputable abbrev env (N : Nat) (l : List (Ent Tryd.prog)) (live : List (Nat × List Nat) := []) (ord : List (Nat × DMode) := []) : Env := mkEnv Tryd.prog T N l live ord
theorem env_ok {N : Nat} {l : List (Ent Tryd.prog)} {live : List (Nat × List Nat)} {ord : List (Nat × DMode)} : EnvOk Tryd.prog (env N l live ord) := mkEnv_ok T_ok mixed
theorem Tryd.own : ownKnob Tryd.prog.godebug = none := by kernel_rfl
theorem Tryd.laidOut : laidOutB Tryd.prog = true := by kernel_rfl
end Go.Proofs.YtbhlncohfpempaaDoor
