/- The table of the types of this program, and that it is right; no condition. -/
import Derived.Test.YtnnfbgonjonflaaEng23
import Derived.Test.YtnnfbgonjonflaaProg
set_option maxRecDepth 20000
set_option maxHeartbeats 4000000
namespace Go.Proofs.Ytnnfbgonjonflaa
open Go Go.Eng
def y1 : TI := ⟨.func #[] #[] false, 1, 8, [.nilFunc], []⟩
@[simp] theorem y1_s : y1.size = 1 := rfl
@[simp] theorem y1_b : y1.bytes = 8 := rfl
def y2 : TI := ⟨.int .i64, 1, 8, [.int .i64 0], []⟩
@[simp] theorem y2_s : y2.size = 1 := rfl
@[simp] theorem y2_b : y2.bytes = 8 := rfl
def y3 : TI := ⟨.int .i64, 1, 8, [.int .i64 0], []⟩
@[simp] theorem y3_s : y3.size = 1 := rfl
@[simp] theorem y3_b : y3.bytes = 8 := rfl
def y4 : TI := ⟨.bool, 1, 1, [.bool false], []⟩
@[simp] theorem y4_s : y4.size = 1 := rfl
@[simp] theorem y4_b : y4.bytes = 1 := rfl
def y5 : TI := ⟨.int .u8, 1, 1, [.int .u8 0], []⟩
@[simp] theorem y5_s : y5.size = 1 := rfl
@[simp] theorem y5_b : y5.bytes = 1 := rfl
def y6 : TI := ⟨.int .u8, 1, 1, [.int .u8 0], []⟩
@[simp] theorem y6_s : y6.size = 1 := rfl
@[simp] theorem y6_b : y6.bytes = 1 := rfl
def y7 : TI := ⟨.struct #[⟨ "x", 2, 0, false, "", "runtime", 0⟩, ⟨ "y", 3, 1, false, "", "runtime", 8⟩, ⟨ "signed", 4, 2, false, "", "runtime", 16⟩, ⟨ "code", 6, 3, false, "", "runtime", 17⟩], 4, 24, [.int .i64 0, .int .i64 0, .bool false, .int .u8 0], []⟩
@[simp] theorem y7_s : y7.size = 4 := rfl
@[simp] theorem y7_b : y7.bytes = 24 := rfl
def y8 : TI := ⟨.struct #[⟨ "x", 2, 0, false, "", "runtime", 0⟩, ⟨ "y", 3, 1, false, "", "runtime", 8⟩, ⟨ "signed", 4, 2, false, "", "runtime", 16⟩, ⟨ "code", 6, 3, false, "", "runtime", 17⟩], 4, 24, [.int .i64 0, .int .i64 0, .bool false, .int .u8 0], []⟩
@[simp] theorem y8_s : y8.size = 4 := rfl
@[simp] theorem y8_b : y8.bytes = 24 := rfl
def y9 : TI := ⟨.string, 1, 16, [.string .empty], []⟩
@[simp] theorem y9_s : y9.size = 1 := rfl
@[simp] theorem y9_b : y9.bytes = 16 := rfl
def y10 : TI := ⟨.string, 1, 16, [.string .empty], []⟩
@[simp] theorem y10_s : y10.size = 1 := rfl
@[simp] theorem y10_b : y10.bytes = 16 := rfl
def y11 : TI := ⟨.string, 1, 16, [.string .empty], []⟩
@[simp] theorem y11_s : y11.size = 1 := rfl
@[simp] theorem y11_b : y11.bytes = 16 := rfl
def y12 : TI := ⟨.int .u64, 1, 8, [.int .u64 0], []⟩
@[simp] theorem y12_s : y12.size = 1 := rfl
@[simp] theorem y12_b : y12.bytes = 8 := rfl
def y13 : TI := ⟨.struct #[⟨ "msg", 9, 0, false, "", "runtime", 0⟩, ⟨ "addr", 12, 1, false, "", "runtime", 16⟩], 2, 24, [.string .empty, .int .u64 0], []⟩
@[simp] theorem y13_s : y13.size = 2 := rfl
@[simp] theorem y13_b : y13.bytes = 24 := rfl
def y14 : TI := ⟨.struct #[⟨ "msg", 9, 0, false, "", "runtime", 0⟩, ⟨ "addr", 12, 1, false, "", "runtime", 16⟩], 2, 24, [.string .empty, .int .u64 0], []⟩
@[simp] theorem y14_s : y14.size = 2 := rfl
@[simp] theorem y14_b : y14.bytes = 24 := rfl
def y15 : TI := ⟨.pointer 242, 1, 8, [.pointer none], []⟩
@[simp] theorem y15_s : y15.size = 1 := rfl
@[simp] theorem y15_b : y15.bytes = 8 := rfl
def y16 : TI := ⟨.pointer 245, 1, 8, [.pointer none], []⟩
@[simp] theorem y16_s : y16.size = 1 := rfl
@[simp] theorem y16_b : y16.bytes = 8 := rfl
def y17 : TI := ⟨.pointer 253, 1, 8, [.pointer none], []⟩
@[simp] theorem y17_s : y17.size = 1 := rfl
@[simp] theorem y17_b : y17.bytes = 8 := rfl
def y18 : TI := ⟨.struct #[⟨ "typ", 17, 0, false, "", "internal/runtime/maps", 0⟩], 1, 8, [.pointer none], []⟩
@[simp] theorem y18_s : y18.size = 1 := rfl
@[simp] theorem y18_b : y18.bytes = 8 := rfl
def y19 : TI := ⟨.struct #[⟨ "typ", 17, 0, false, "", "internal/runtime/maps", 0⟩], 1, 8, [.pointer none], []⟩
@[simp] theorem y19_s : y19.size = 1 := rfl
@[simp] theorem y19_b : y19.bytes = 8 := rfl
def y21 : TI := ⟨.int .i32, 1, 4, [.int .i32 0], []⟩
@[simp] theorem y21_s : y21.size = 1 := rfl
@[simp] theorem y21_b : y21.bytes = 4 := rfl
def y22 : TI := ⟨.array 4 3, 4, 32, [.int .i64 0, .int .i64 0, .int .i64 0, .int .i64 0], [.int .i64, .int .i64, .int .i64, .int .i64]⟩
@[simp] theorem y22_s : y22.size = 4 := rfl
@[simp] theorem y22_b : y22.bytes = 32 := rfl
def y23 : TI := ⟨.struct #[⟨ "Glasses", 22, 0, false, "", "", 0⟩], 4, 32, [.int .i64 0, .int .i64 0, .int .i64 0, .int .i64 0], [.int .i64, .int .i64, .int .i64, .int .i64]⟩
@[simp] theorem y23_s : y23.size = 4 := rfl
@[simp] theorem y23_b : y23.bytes = 32 := rfl
def y24 : TI := ⟨.struct #[⟨ "Glasses", 22, 0, false, "", "", 0⟩], 4, 32, [.int .i64 0, .int .i64 0, .int .i64 0, .int .i64 0], [.int .i64, .int .i64, .int .i64, .int .i64]⟩
@[simp] theorem y24_s : y24.size = 4 := rfl
@[simp] theorem y24_b : y24.bytes = 32 := rfl
def y25 : TI := ⟨.slice 3, 1, 24, [.slice none 0 0], []⟩
@[simp] theorem y25_s : y25.size = 1 := rfl
@[simp] theorem y25_b : y25.bytes = 24 := rfl
def y27 : TI := ⟨.func #[28, 25] #[25, 4] false, 1, 8, [.nilFunc], []⟩
@[simp] theorem y27_s : y27.size = 1 := rfl
@[simp] theorem y27_b : y27.bytes = 8 := rfl
def y28 : TI := ⟨.struct #[⟨ "Glasses", 22, 0, false, "", "", 0⟩], 4, 32, [.int .i64 0, .int .i64 0, .int .i64 0, .int .i64 0], [.int .i64, .int .i64, .int .i64, .int .i64]⟩
@[simp] theorem y28_s : y28.size = 4 := rfl
@[simp] theorem y28_b : y28.bytes = 32 := rfl
def y29 : TI := ⟨.func #[24] #[28] false, 1, 8, [.nilFunc], []⟩
@[simp] theorem y29_s : y29.size = 1 := rfl
@[simp] theorem y29_b : y29.bytes = 8 := rfl
def y30 : TI := ⟨.func #[25] #[25] false, 1, 8, [.nilFunc], []⟩
@[simp] theorem y30_s : y30.size = 1 := rfl
@[simp] theorem y30_b : y30.bytes = 8 := rfl
def y31 : TI := ⟨.func #[25, 25] #[4] false, 1, 8, [.nilFunc], []⟩
@[simp] theorem y31_s : y31.size = 1 := rfl
@[simp] theorem y31_b : y31.bytes = 8 := rfl
def y32 : TI := ⟨.func #[25, 3] #[3] false, 1, 8, [.nilFunc], []⟩
@[simp] theorem y32_s : y32.size = 1 := rfl
@[simp] theorem y32_b : y32.bytes = 8 := rfl
def y33 : TI := ⟨.func #[24, 25] #[4] false, 1, 8, [.nilFunc], []⟩
@[simp] theorem y33_s : y33.size = 1 := rfl
@[simp] theorem y33_b : y33.bytes = 8 := rfl
def y34 : TI := ⟨.func #[28, 25, 25] #[25, 4] false, 1, 8, [.nilFunc], []⟩
@[simp] theorem y34_s : y34.size = 1 := rfl
@[simp] theorem y34_b : y34.bytes = 8 := rfl
def y35 : TI := ⟨.func #[24, 25, 25] #[4] false, 1, 8, [.nilFunc], []⟩
@[simp] theorem y35_s : y35.size = 1 := rfl
@[simp] theorem y35_b : y35.bytes = 8 := rfl
def y36 : TI := ⟨.slice 121, 1, 24, [.slice none 0 0], []⟩
@[simp] theorem y36_s : y36.size = 1 := rfl
@[simp] theorem y36_b : y36.bytes = 24 := rfl
def y37 : TI := ⟨.func #[36, 3] #[3] false, 1, 8, [.nilFunc], []⟩
@[simp] theorem y37_s : y37.size = 1 := rfl
@[simp] theorem y37_b : y37.bytes = 8 := rfl
def y39 : TI := ⟨.func #[28, 40] #[3, 4] false, 1, 8, [.nilFunc], []⟩
@[simp] theorem y39_s : y39.size = 1 := rfl
@[simp] theorem y39_b : y39.bytes = 8 := rfl
def y40 : TI := ⟨.slice 119, 1, 24, [.slice none 0 0], []⟩
@[simp] theorem y40_s : y40.size = 1 := rfl
@[simp] theorem y40_b : y40.bytes = 24 := rfl
def y41 : TI := ⟨.func #[36] #[40] false, 1, 8, [.nilFunc], []⟩
@[simp] theorem y41_s : y41.size = 1 := rfl
@[simp] theorem y41_b : y41.bytes = 8 := rfl
def y42 : TI := ⟨.func #[40, 40] #[4] false, 1, 8, [.nilFunc], []⟩
@[simp] theorem y42_s : y42.size = 1 := rfl
@[simp] theorem y42_b : y42.bytes = 8 := rfl
def y43 : TI := ⟨.func #[24, 36] #[4] false, 1, 8, [.nilFunc], []⟩
@[simp] theorem y43_s : y43.size = 1 := rfl
@[simp] theorem y43_b : y43.bytes = 8 := rfl
def y44 : TI := ⟨.func #[28, 3, 3] #[3, 4] false, 1, 8, [.nilFunc], []⟩
@[simp] theorem y44_s : y44.size = 1 := rfl
@[simp] theorem y44_b : y44.bytes = 8 := rfl
def y45 : TI := ⟨.func #[24, 3, 3] #[4] false, 1, 8, [.nilFunc], []⟩
@[simp] theorem y45_s : y45.size = 1 := rfl
@[simp] theorem y45_b : y45.bytes = 8 := rfl
def y47 : TI := ⟨.func #[28, 22, 3, 3] #[4, 4] false, 1, 8, [.nilFunc], []⟩
@[simp] theorem y47_s : y47.size = 1 := rfl
@[simp] theorem y47_b : y47.bytes = 8 := rfl
def y48 : TI := ⟨.func #[22] #[22] false, 1, 8, [.nilFunc], []⟩
@[simp] theorem y48_s : y48.size = 1 := rfl
@[simp] theorem y48_b : y48.bytes = 8 := rfl
def y49 : TI := ⟨.func #[24, 22, 3, 3] #[4] false, 1, 8, [.nilFunc], []⟩
@[simp] theorem y49_s : y49.size = 1 := rfl
@[simp] theorem y49_b : y49.bytes = 8 := rfl
def y50 : TI := ⟨.func #[28, 3] #[25, 4] false, 1, 8, [.nilFunc], []⟩
@[simp] theorem y50_s : y50.size = 1 := rfl
@[simp] theorem y50_b : y50.bytes = 8 := rfl
def y51 : TI := ⟨.func #[24, 3] #[4] false, 1, 8, [.nilFunc], []⟩
@[simp] theorem y51_s : y51.size = 1 := rfl
@[simp] theorem y51_b : y51.bytes = 8 := rfl
def y52 : TI := ⟨.func #[28, 22, 3, 3] #[25, 4] false, 1, 8, [.nilFunc], []⟩
@[simp] theorem y52_s : y52.size = 1 := rfl
@[simp] theorem y52_b : y52.bytes = 8 := rfl
def y53 : TI := ⟨.slice 5, 1, 24, [.slice none 0 0], []⟩
@[simp] theorem y53_s : y53.size = 1 := rfl
@[simp] theorem y53_b : y53.bytes = 24 := rfl
def y54 : TI := ⟨.func #[53] #[4] false, 1, 8, [.nilFunc], []⟩
@[simp] theorem y54_s : y54.size = 1 := rfl
@[simp] theorem y54_b : y54.bytes = 8 := rfl
def y55 : TI := ⟨.func #[53] #[28] false, 1, 8, [.nilFunc], []⟩
@[simp] theorem y55_s : y55.size = 1 := rfl
@[simp] theorem y55_b : y55.bytes = 8 := rfl
def y56 : TI := ⟨.struct #[⟨ "Kit", 28, 0, false, "", "", 0⟩, ⟨ "Sand", 22, 4, false, "", "", 32⟩, ⟨ "Clock", 3, 8, false, "", "", 64⟩, ⟨ "Mark", 3, 9, false, "", "", 72⟩, ⟨ "Count", 3, 10, false, "", "", 80⟩], 11, 88, [.int .i64 0, .int .i64 0, .int .i64 0, .int .i64 0, .int .i64 0, .int .i64 0, .int .i64 0, .int .i64 0, .int .i64 0, .int .i64 0, .int .i64 0], [.int .i64, .int .i64, .int .i64, .int .i64, .int .i64, .int .i64, .int .i64, .int .i64, .int .i64, .int .i64, .int .i64]⟩
@[simp] theorem y56_s : y56.size = 11 := rfl
@[simp] theorem y56_b : y56.bytes = 88 := rfl
def y57 : TI := ⟨.struct #[⟨ "Kit", 28, 0, false, "", "", 0⟩, ⟨ "Sand", 22, 4, false, "", "", 32⟩, ⟨ "Clock", 3, 8, false, "", "", 64⟩, ⟨ "Mark", 3, 9, false, "", "", 72⟩, ⟨ "Count", 3, 10, false, "", "", 80⟩], 11, 88, [.int .i64 0, .int .i64 0, .int .i64 0, .int .i64 0, .int .i64 0, .int .i64 0, .int .i64 0, .int .i64 0, .int .i64 0, .int .i64 0, .int .i64 0], [.int .i64, .int .i64, .int .i64, .int .i64, .int .i64, .int .i64, .int .i64, .int .i64, .int .i64, .int .i64, .int .i64]⟩
@[simp] theorem y57_s : y57.size = 11 := rfl
@[simp] theorem y57_b : y57.bytes = 88 := rfl
def y59 : TI := ⟨.func #[28] #[57, 4] false, 1, 8, [.nilFunc], []⟩
@[simp] theorem y59_s : y59.size = 1 := rfl
@[simp] theorem y59_b : y59.bytes = 8 := rfl
def y60 : TI := ⟨.struct #[⟨ "Kind", 3, 0, false, "", "", 0⟩, ⟨ "A", 3, 1, false, "", "", 8⟩, ⟨ "B", 3, 2, false, "", "", 16⟩], 3, 24, [.int .i64 0, .int .i64 0, .int .i64 0], [.int .i64, .int .i64, .int .i64]⟩
@[simp] theorem y60_s : y60.size = 3 := rfl
@[simp] theorem y60_b : y60.bytes = 24 := rfl
def y61 : TI := ⟨.struct #[⟨ "Kind", 3, 0, false, "", "", 0⟩, ⟨ "A", 3, 1, false, "", "", 8⟩, ⟨ "B", 3, 2, false, "", "", 16⟩], 3, 24, [.int .i64 0, .int .i64 0, .int .i64 0], [.int .i64, .int .i64, .int .i64]⟩
@[simp] theorem y61_s : y61.size = 3 := rfl
@[simp] theorem y61_b : y61.bytes = 24 := rfl
def y63 : TI := ⟨.func #[53] #[57, 61] false, 1, 8, [.nilFunc], []⟩
@[simp] theorem y63_s : y63.size = 1 := rfl
@[simp] theorem y63_b : y63.bytes = 8 := rfl
def y64 : TI := ⟨.func #[53, 3] #[53] false, 1, 8, [.nilFunc], []⟩
@[simp] theorem y64_s : y64.size = 1 := rfl
@[simp] theorem y64_b : y64.bytes = 8 := rfl
def y65 : TI := ⟨.func #[57, 61] #[57, 4] false, 1, 8, [.nilFunc], []⟩
@[simp] theorem y65_s : y65.size = 1 := rfl
@[simp] theorem y65_b : y65.bytes = 8 := rfl
def y66 : TI := ⟨.slice 61, 1, 24, [.slice none 0 0], []⟩
@[simp] theorem y66_s : y66.size = 1 := rfl
@[simp] theorem y66_b : y66.bytes = 24 := rfl
def y68 : TI := ⟨.func #[53] #[57, 66] false, 1, 8, [.nilFunc], []⟩
@[simp] theorem y68_s : y68.size = 1 := rfl
@[simp] theorem y68_b : y68.bytes = 8 := rfl
def y70 : TI := ⟨.func #[57, 66] #[57, 3, 4] false, 1, 8, [.nilFunc], []⟩
@[simp] theorem y70_s : y70.size = 1 := rfl
@[simp] theorem y70_b : y70.bytes = 8 := rfl
def y71 : TI := ⟨.func #[57] #[3, 4] false, 1, 8, [.nilFunc], []⟩
@[simp] theorem y71_s : y71.size = 1 := rfl
@[simp] theorem y71_b : y71.bytes = 8 := rfl
def y72 : TI := ⟨.func #[57] #[4] false, 1, 8, [.nilFunc], []⟩
@[simp] theorem y72_s : y72.size = 1 := rfl
@[simp] theorem y72_b : y72.bytes = 8 := rfl
def y73 : TI := ⟨.func #[28, 22] #[3, 4] false, 1, 8, [.nilFunc], []⟩
@[simp] theorem y73_s : y73.size = 1 := rfl
@[simp] theorem y73_b : y73.bytes = 8 := rfl
def y74 : TI := ⟨.slice 92, 1, 24, [.slice none 0 0], []⟩
@[simp] theorem y74_s : y74.size = 1 := rfl
@[simp] theorem y74_b : y74.bytes = 24 := rfl
def y76 : TI := ⟨.func #[53] #[74, 25, 3] false, 1, 8, [.nilFunc], []⟩
@[simp] theorem y76_s : y76.size = 1 := rfl
@[simp] theorem y76_b : y76.bytes = 8 := rfl
def y78 : TI := ⟨.func #[74, 25, 3] #[74, 4] false, 1, 8, [.nilFunc], []⟩
@[simp] theorem y78_s : y78.size = 1 := rfl
@[simp] theorem y78_b : y78.bytes = 8 := rfl
def y80 : TI := ⟨.func #[74, 25, 3] #[22, 4] false, 1, 8, [.nilFunc], []⟩
@[simp] theorem y80_s : y80.size = 1 := rfl
@[simp] theorem y80_b : y80.bytes = 8 := rfl
def y81 : TI := ⟨.func #[53] #[74] false, 1, 8, [.nilFunc], []⟩
@[simp] theorem y81_s : y81.size = 1 := rfl
@[simp] theorem y81_b : y81.bytes = 8 := rfl
def y83 : TI := ⟨.func #[74] #[74, 3, 3, 4] false, 1, 8, [.nilFunc], []⟩
@[simp] theorem y83_s : y83.size = 1 := rfl
@[simp] theorem y83_b : y83.bytes = 8 := rfl
def y85 : TI := ⟨.func #[53] #[74, 25, 3, 3] false, 1, 8, [.nilFunc], []⟩
@[simp] theorem y85_s : y85.size = 1 := rfl
@[simp] theorem y85_b : y85.bytes = 8 := rfl
def y86 : TI := ⟨.func #[74, 25, 3, 3] #[25, 4] false, 1, 8, [.nilFunc], []⟩
@[simp] theorem y86_s : y86.size = 1 := rfl
@[simp] theorem y86_b : y86.bytes = 8 := rfl
def y87 : TI := ⟨.func #[74] #[3, 4] false, 1, 8, [.nilFunc], []⟩
@[simp] theorem y87_s : y87.size = 1 := rfl
@[simp] theorem y87_b : y87.bytes = 8 := rfl
def y88 : TI := ⟨.func #[74, 25] #[3, 4] false, 1, 8, [.nilFunc], []⟩
@[simp] theorem y88_s : y88.size = 1 := rfl
@[simp] theorem y88_b : y88.bytes = 8 := rfl
def y89 : TI := ⟨.func #[74, 74] #[4] false, 1, 8, [.nilFunc], []⟩
@[simp] theorem y89_s : y89.size = 1 := rfl
@[simp] theorem y89_b : y89.bytes = 8 := rfl
def y90 : TI := ⟨.func #[74] #[4] false, 1, 8, [.nilFunc], []⟩
@[simp] theorem y90_s : y90.size = 1 := rfl
@[simp] theorem y90_b : y90.bytes = 8 := rfl
def y91 : TI := ⟨.struct #[⟨ "Room", 3, 0, false, "", "", 0⟩, ⟨ "Leak", 3, 1, false, "", "", 8⟩, ⟨ "Level", 3, 2, false, "", "", 16⟩], 3, 24, [.int .i64 0, .int .i64 0, .int .i64 0], [.int .i64, .int .i64, .int .i64]⟩
@[simp] theorem y91_s : y91.size = 3 := rfl
@[simp] theorem y91_b : y91.bytes = 24 := rfl
def y92 : TI := ⟨.struct #[⟨ "Room", 3, 0, false, "", "", 0⟩, ⟨ "Leak", 3, 1, false, "", "", 8⟩, ⟨ "Level", 3, 2, false, "", "", 16⟩], 3, 24, [.int .i64 0, .int .i64 0, .int .i64 0], [.int .i64, .int .i64, .int .i64]⟩
@[simp] theorem y92_s : y92.size = 3 := rfl
@[simp] theorem y92_b : y92.bytes = 24 := rfl
def y94 : TI := ⟨.func #[53] #[28, 25] false, 1, 8, [.nilFunc], []⟩
@[simp] theorem y94_s : y94.size = 1 := rfl
@[simp] theorem y94_b : y94.bytes = 8 := rfl
def y95 : TI := ⟨.func #[28, 25] #[3, 4] false, 1, 8, [.nilFunc], []⟩
@[simp] theorem y95_s : y95.size = 1 := rfl
@[simp] theorem y95_b : y95.bytes = 8 := rfl
def y97 : TI := ⟨.func #[53] #[28, 25, 25] false, 1, 8, [.nilFunc], []⟩
@[simp] theorem y97_s : y97.size = 1 := rfl
@[simp] theorem y97_b : y97.bytes = 8 := rfl
def y98 : TI := ⟨.func #[28, 25, 25] #[4, 4] false, 1, 8, [.nilFunc], []⟩
@[simp] theorem y98_s : y98.size = 1 := rfl
@[simp] theorem y98_b : y98.bytes = 8 := rfl
def y99 : TI := ⟨.func #[25] #[3] false, 1, 8, [.nilFunc], []⟩
@[simp] theorem y99_s : y99.size = 1 := rfl
@[simp] theorem y99_b : y99.bytes = 8 := rfl
def y101 : TI := ⟨.func #[53] #[92, 3] false, 1, 8, [.nilFunc], []⟩
@[simp] theorem y101_s : y101.size = 1 := rfl
@[simp] theorem y101_b : y101.bytes = 8 := rfl
def y102 : TI := ⟨.func #[92, 3] #[3, 4] false, 1, 8, [.nilFunc], []⟩
@[simp] theorem y102_s : y102.size = 1 := rfl
@[simp] theorem y102_b : y102.bytes = 8 := rfl
def y103 : TI := ⟨.func #[92, 3] #[25, 4] false, 1, 8, [.nilFunc], []⟩
@[simp] theorem y103_s : y103.size = 1 := rfl
@[simp] theorem y103_b : y103.bytes = 8 := rfl
def y105 : TI := ⟨.func #[53] #[74, 3, 3] false, 1, 8, [.nilFunc], []⟩
@[simp] theorem y105_s : y105.size = 1 := rfl
@[simp] theorem y105_b : y105.bytes = 8 := rfl
def y106 : TI := ⟨.func #[74, 3, 3] #[74, 4] false, 1, 8, [.nilFunc], []⟩
@[simp] theorem y106_s : y106.size = 1 := rfl
@[simp] theorem y106_b : y106.bytes = 8 := rfl
def y107 : TI := ⟨.func #[25, 3] #[25] false, 1, 8, [.nilFunc], []⟩
@[simp] theorem y107_s : y107.size = 1 := rfl
@[simp] theorem y107_b : y107.bytes = 8 := rfl
def y108 : TI := ⟨.func #[25] #[] false, 1, 8, [.nilFunc], []⟩
@[simp] theorem y108_s : y108.size = 1 := rfl
@[simp] theorem y108_b : y108.bytes = 8 := rfl
def y110 : TI := ⟨.func #[28, 22, 25] #[25, 22] false, 1, 8, [.nilFunc], []⟩
@[simp] theorem y110_s : y110.size = 1 := rfl
@[simp] theorem y110_b : y110.bytes = 8 := rfl
def y112 : TI := ⟨.func #[28, 22, 25] #[25, 22, 4] false, 1, 8, [.nilFunc], []⟩
@[simp] theorem y112_s : y112.size = 1 := rfl
@[simp] theorem y112_b : y112.bytes = 8 := rfl
def y113 : TI := ⟨.func #[] #[22] false, 1, 8, [.nilFunc], []⟩
@[simp] theorem y113_s : y113.size = 1 := rfl
@[simp] theorem y113_b : y113.bytes = 8 := rfl
def y114 : TI := ⟨.func #[198] #[25] true, 1, 8, [.nilFunc], []⟩
@[simp] theorem y114_s : y114.size = 1 := rfl
@[simp] theorem y114_b : y114.bytes = 8 := rfl
def y115 : TI := ⟨.func #[28] #[4] false, 1, 8, [.nilFunc], []⟩
@[simp] theorem y115_s : y115.size = 1 := rfl
@[simp] theorem y115_b : y115.bytes = 8 := rfl
def y116 : TI := ⟨.func #[40] #[4] false, 1, 8, [.nilFunc], []⟩
@[simp] theorem y116_s : y116.size = 1 := rfl
@[simp] theorem y116_b : y116.bytes = 8 := rfl
def y117 : TI := ⟨.func #[28, 22, 25, 40, 3] #[4] false, 1, 8, [.nilFunc], []⟩
@[simp] theorem y117_s : y117.size = 1 := rfl
@[simp] theorem y117_b : y117.bytes = 8 := rfl
def y118 : TI := ⟨.struct #[⟨ "Minutes", 3, 0, false, "", "", 0⟩, ⟨ "From", 3, 1, false, "", "", 8⟩, ⟨ "To", 3, 2, false, "", "", 16⟩], 3, 24, [.int .i64 0, .int .i64 0, .int .i64 0], [.int .i64, .int .i64, .int .i64]⟩
@[simp] theorem y118_s : y118.size = 3 := rfl
@[simp] theorem y118_b : y118.bytes = 24 := rfl
def y119 : TI := ⟨.struct #[⟨ "Minutes", 3, 0, false, "", "", 0⟩, ⟨ "From", 3, 1, false, "", "", 8⟩, ⟨ "To", 3, 2, false, "", "", 16⟩], 3, 24, [.int .i64 0, .int .i64 0, .int .i64 0], [.int .i64, .int .i64, .int .i64]⟩
@[simp] theorem y119_s : y119.size = 3 := rfl
@[simp] theorem y119_b : y119.bytes = 24 := rfl
def y120 : TI := ⟨.func #[121] #[119] false, 1, 8, [.nilFunc], []⟩
@[simp] theorem y120_s : y120.size = 1 := rfl
@[simp] theorem y120_b : y120.bytes = 8 := rfl
def y121 : TI := ⟨.struct #[⟨ "Minutes", 3, 0, false, "", "", 0⟩, ⟨ "From", 3, 1, false, "", "", 8⟩, ⟨ "To", 3, 2, false, "", "", 16⟩], 3, 24, [.int .i64 0, .int .i64 0, .int .i64 0], [.int .i64, .int .i64, .int .i64]⟩
@[simp] theorem y121_s : y121.size = 3 := rfl
@[simp] theorem y121_b : y121.bytes = 24 := rfl
def y122 : TI := ⟨.pointer 124, 1, 8, [.pointer none], []⟩
@[simp] theorem y122_s : y122.size = 1 := rfl
@[simp] theorem y122_b : y122.bytes = 8 := rfl
def y123 : TI := ⟨.struct #[⟨ "k", 28, 0, false, "", "loop.example/g01187/impl", 0⟩, ⟨ "list", 40, 4, false, "", "loop.example/g01187/impl", 32⟩], 5, 56, [.int .i64 0, .int .i64 0, .int .i64 0, .int .i64 0, .slice none 0 0], []⟩
@[simp] theorem y123_s : y123.size = 5 := rfl
@[simp] theorem y123_b : y123.bytes = 56 := rfl
def y124 : TI := ⟨.struct #[⟨ "k", 28, 0, false, "", "loop.example/g01187/impl", 0⟩, ⟨ "list", 40, 4, false, "", "loop.example/g01187/impl", 32⟩], 5, 56, [.int .i64 0, .int .i64 0, .int .i64 0, .int .i64 0, .slice none 0 0], []⟩
@[simp] theorem y124_s : y124.size = 5 := rfl
@[simp] theorem y124_b : y124.bytes = 56 := rfl
def y125 : TI := ⟨.func #[22, 25, 3] #[4] false, 1, 8, [.nilFunc], []⟩
@[simp] theorem y125_s : y125.size = 1 := rfl
@[simp] theorem y125_b : y125.bytes = 8 := rfl
def y126 : TI := ⟨.func #[119, 119] #[4] false, 1, 8, [.nilFunc], []⟩
@[simp] theorem y126_s : y126.size = 1 := rfl
@[simp] theorem y126_b : y126.bytes = 8 := rfl
def y127 : TI := ⟨.func #[3, 3, 3] #[4] false, 1, 8, [.nilFunc], []⟩
@[simp] theorem y127_s : y127.size = 1 := rfl
@[simp] theorem y127_b : y127.bytes = 8 := rfl
def y128 : TI := ⟨.func #[28, 22, 3, 3] #[3] false, 1, 8, [.nilFunc], []⟩
@[simp] theorem y128_s : y128.size = 1 := rfl
@[simp] theorem y128_b : y128.bytes = 8 := rfl
def y129 : TI := ⟨.struct #[⟨ "sand", 22, 0, false, "", "loop.example/g01187/impl", 0⟩, ⟨ "time", 3, 4, false, "", "loop.example/g01187/impl", 32⟩], 5, 40, [.int .i64 0, .int .i64 0, .int .i64 0, .int .i64 0, .int .i64 0], [.int .i64, .int .i64, .int .i64, .int .i64, .int .i64]⟩
@[simp] theorem y129_s : y129.size = 5 := rfl
@[simp] theorem y129_b : y129.bytes = 40 := rfl
def y130 : TI := ⟨.struct #[⟨ "sand", 22, 0, false, "", "loop.example/g01187/impl", 0⟩, ⟨ "time", 3, 4, false, "", "loop.example/g01187/impl", 32⟩], 5, 40, [.int .i64 0, .int .i64 0, .int .i64 0, .int .i64 0, .int .i64 0], [.int .i64, .int .i64, .int .i64, .int .i64, .int .i64]⟩
@[simp] theorem y130_s : y130.size = 5 := rfl
@[simp] theorem y130_b : y130.bytes = 40 := rfl
def y131 : TI := ⟨.map 130 3, 1, 8, [.map none], []⟩
@[simp] theorem y131_s : y131.size = 1 := rfl
@[simp] theorem y131_b : y131.bytes = 8 := rfl
def y132 : TI := ⟨.func #[] #[25] false, 1, 8, [.nilFunc], []⟩
@[simp] theorem y132_s : y132.size = 1 := rfl
@[simp] theorem y132_b : y132.bytes = 8 := rfl
def y134 : TI := ⟨.func #[22, 3] #[22, 3] false, 1, 8, [.nilFunc], []⟩
@[simp] theorem y134_s : y134.size = 1 := rfl
@[simp] theorem y134_b : y134.bytes = 8 := rfl
def y135 : TI := ⟨.func #[28, 22, 3, 3] #[4] false, 1, 8, [.nilFunc], []⟩
@[simp] theorem y135_s : y135.size = 1 := rfl
@[simp] theorem y135_b : y135.bytes = 8 := rfl
def y136 : TI := ⟨.slice 4, 1, 24, [.slice none 0 0], []⟩
@[simp] theorem y136_s : y136.size = 1 := rfl
@[simp] theorem y136_b : y136.bytes = 24 := rfl
def y137 : TI := ⟨.slice 136, 1, 24, [.slice none 0 0], []⟩
@[simp] theorem y137_s : y137.size = 1 := rfl
@[simp] theorem y137_b : y137.bytes = 24 := rfl
def y138 : TI := ⟨.func #[28, 3] #[137] false, 1, 8, [.nilFunc], []⟩
@[simp] theorem y138_s : y138.size = 1 := rfl
@[simp] theorem y138_b : y138.bytes = 8 := rfl
def y139 : TI := ⟨.func #[28, 22] #[3] false, 1, 8, [.nilFunc], []⟩
@[simp] theorem y139_s : y139.size = 1 := rfl
@[simp] theorem y139_b : y139.bytes = 8 := rfl
def y140 : TI := ⟨.pointer 209, 1, 8, [.pointer none], []⟩
@[simp] theorem y140_s : y140.size = 1 := rfl
@[simp] theorem y140_b : y140.bytes = 8 := rfl
def y141 : TI := ⟨.func #[28] #[140] false, 1, 8, [.nilFunc], []⟩
@[simp] theorem y141_s : y141.size = 1 := rfl
@[simp] theorem y141_b : y141.bytes = 8 := rfl
def y142 : TI := ⟨.func #[130] #[4] false, 1, 8, [.nilFunc], []⟩
@[simp] theorem y142_s : y142.size = 1 := rfl
@[simp] theorem y142_b : y142.bytes = 8 := rfl
def y143 : TI := ⟨.func #[28, 22] #[4] false, 1, 8, [.nilFunc], []⟩
@[simp] theorem y143_s : y143.size = 1 := rfl
@[simp] theorem y143_b : y143.bytes = 8 := rfl
def y144 : TI := ⟨.func #[28, 3] #[4] false, 1, 8, [.nilFunc], []⟩
@[simp] theorem y144_s : y144.size = 1 := rfl
@[simp] theorem y144_b : y144.bytes = 8 := rfl
def y145 : TI := ⟨.func #[28, 22, 3] #[22, 3] false, 1, 8, [.nilFunc], []⟩
@[simp] theorem y145_s : y145.size = 1 := rfl
@[simp] theorem y145_b : y145.bytes = 8 := rfl
def y146 : TI := ⟨.func #[130, 3] #[4] false, 1, 8, [.nilFunc], []⟩
@[simp] theorem y146_s : y146.size = 1 := rfl
@[simp] theorem y146_b : y146.bytes = 8 := rfl
def y147 : TI := ⟨.pointer 150, 1, 8, [.pointer none], []⟩
@[simp] theorem y147_s : y147.size = 1 := rfl
@[simp] theorem y147_b : y147.bytes = 8 := rfl
def y148 : TI := ⟨.int .u64, 1, 8, [.int .u64 0], []⟩
@[simp] theorem y148_s : y148.size = 1 := rfl
@[simp] theorem y148_b : y148.bytes = 8 := rfl
def y149 : TI := ⟨.struct #[⟨ "code", 53, 0, false, "", "loop.example/g01187/spec", 0⟩, ⟨ "at", 3, 1, false, "", "loop.example/g01187/spec", 24⟩, ⟨ "seed", 148, 2, false, "", "loop.example/g01187/spec", 32⟩], 3, 40, [.slice none 0 0, .int .i64 0, .int .u64 0], []⟩
@[simp] theorem y149_s : y149.size = 3 := rfl
@[simp] theorem y149_b : y149.bytes = 40 := rfl
def y150 : TI := ⟨.struct #[⟨ "code", 53, 0, false, "", "loop.example/g01187/spec", 0⟩, ⟨ "at", 3, 1, false, "", "loop.example/g01187/spec", 24⟩, ⟨ "seed", 148, 2, false, "", "loop.example/g01187/spec", 32⟩], 3, 40, [.slice none 0 0, .int .i64 0, .int .u64 0], []⟩
@[simp] theorem y150_s : y150.size = 3 := rfl
@[simp] theorem y150_b : y150.bytes = 40 := rfl
def y151 : TI := ⟨.func #[] #[28] false, 1, 8, [.nilFunc], []⟩
@[simp] theorem y151_s : y151.size = 1 := rfl
@[simp] theorem y151_b : y151.bytes = 8 := rfl
def y152 : TI := ⟨.func #[57] #[57, 4] false, 1, 8, [.nilFunc], []⟩
@[simp] theorem y152_s : y152.size = 1 := rfl
@[simp] theorem y152_b : y152.bytes = 8 := rfl
def y153 : TI := ⟨.func #[] #[57] false, 1, 8, [.nilFunc], []⟩
@[simp] theorem y153_s : y153.size = 1 := rfl
@[simp] theorem y153_b : y153.bytes = 8 := rfl
def y154 : TI := ⟨.func #[57] #[61] false, 1, 8, [.nilFunc], []⟩
@[simp] theorem y154_s : y154.size = 1 := rfl
@[simp] theorem y154_b : y154.bytes = 8 := rfl
def y155 : TI := ⟨.func #[] #[4] false, 1, 8, [.nilFunc], []⟩
@[simp] theorem y155_s : y155.size = 1 := rfl
@[simp] theorem y155_b : y155.bytes = 8 := rfl
def y156 : TI := ⟨.func #[28, 22, 3] #[22, 4] false, 1, 8, [.nilFunc], []⟩
@[simp] theorem y156_s : y156.size = 1 := rfl
@[simp] theorem y156_b : y156.bytes = 8 := rfl
def y157 : TI := ⟨.func #[22, 3] #[22] false, 1, 8, [.nilFunc], []⟩
@[simp] theorem y157_s : y157.size = 1 := rfl
@[simp] theorem y157_b : y157.bytes = 8 := rfl
def y159 : TI := ⟨.func #[28, 22, 3] #[22, 3, 4] false, 1, 8, [.nilFunc], []⟩
@[simp] theorem y159_s : y159.size = 1 := rfl
@[simp] theorem y159_b : y159.bytes = 8 := rfl
def y161 : TI := ⟨.func #[28, 3, 3] #[28, 4] false, 1, 8, [.nilFunc], []⟩
@[simp] theorem y161_s : y161.size = 1 := rfl
@[simp] theorem y161_b : y161.bytes = 8 := rfl
def y162 : TI := ⟨.func #[3] #[3] false, 1, 8, [.nilFunc], []⟩
@[simp] theorem y162_s : y162.size = 1 := rfl
@[simp] theorem y162_b : y162.bytes = 8 := rfl
def y163 : TI := ⟨.func #[22] #[3] false, 1, 8, [.nilFunc], []⟩
@[simp] theorem y163_s : y163.size = 1 := rfl
@[simp] theorem y163_b : y163.bytes = 8 := rfl
def y164 : TI := ⟨.func #[] #[74] false, 1, 8, [.nilFunc], []⟩
@[simp] theorem y164_s : y164.size = 1 := rfl
@[simp] theorem y164_b : y164.bytes = 8 := rfl
def y165 : TI := ⟨.func #[] #[3] false, 1, 8, [.nilFunc], []⟩
@[simp] theorem y165_s : y165.size = 1 := rfl
@[simp] theorem y165_b : y165.bytes = 8 := rfl
def y166 : TI := ⟨.func #[74, 25, 3] #[4] false, 1, 8, [.nilFunc], []⟩
@[simp] theorem y166_s : y166.size = 1 := rfl
@[simp] theorem y166_b : y166.bytes = 8 := rfl
def y167 : TI := ⟨.struct #[⟨ "list", 74, 0, false, "", "loop.example/g01187/impl", 0⟩, ⟨ "spilt", 3, 1, false, "", "loop.example/g01187/impl", 24⟩, ⟨ "out", 3, 2, false, "", "loop.example/g01187/impl", 32⟩, ⟨ "poured", 3, 3, false, "", "loop.example/g01187/impl", 40⟩], 4, 48, [.slice none 0 0, .int .i64 0, .int .i64 0, .int .i64 0], []⟩
@[simp] theorem y167_s : y167.size = 4 := rfl
@[simp] theorem y167_b : y167.bytes = 48 := rfl
def y168 : TI := ⟨.struct #[⟨ "list", 74, 0, false, "", "loop.example/g01187/impl", 0⟩, ⟨ "spilt", 3, 1, false, "", "loop.example/g01187/impl", 24⟩, ⟨ "out", 3, 2, false, "", "loop.example/g01187/impl", 32⟩, ⟨ "poured", 3, 3, false, "", "loop.example/g01187/impl", 40⟩], 4, 48, [.slice none 0 0, .int .i64 0, .int .i64 0, .int .i64 0], []⟩
@[simp] theorem y168_s : y168.size = 4 := rfl
@[simp] theorem y168_b : y168.bytes = 48 := rfl
def y169 : TI := ⟨.pointer 168, 1, 8, [.pointer none], []⟩
@[simp] theorem y169_s : y169.size = 1 := rfl
@[simp] theorem y169_b : y169.bytes = 8 := rfl
def y170 : TI := ⟨.func #[74, 25, 3, 171] #[169] false, 1, 8, [.nilFunc], []⟩
@[simp] theorem y170_s : y170.size = 1 := rfl
@[simp] theorem y170_b : y170.bytes = 8 := rfl
def y171 : TI := ⟨.func #[3, 169] #[4] false, 1, 8, [.nilFunc], []⟩
@[simp] theorem y171_s : y171.size = 1 := rfl
@[simp] theorem y171_b : y171.bytes = 8 := rfl
def y172 : TI := ⟨.func #[74, 25] #[4] false, 1, 8, [.nilFunc], []⟩
@[simp] theorem y172_s : y172.size = 1 := rfl
@[simp] theorem y172_b : y172.bytes = 8 := rfl
def y173 : TI := ⟨.func #[74] #[74] false, 1, 8, [.nilFunc], []⟩
@[simp] theorem y173_s : y173.size = 1 := rfl
@[simp] theorem y173_b : y173.bytes = 8 := rfl
def y174 : TI := ⟨.array 3 3, 3, 24, [.int .i64 0, .int .i64 0, .int .i64 0], [.int .i64, .int .i64, .int .i64]⟩
@[simp] theorem y174_s : y174.size = 3 := rfl
@[simp] theorem y174_b : y174.bytes = 24 := rfl
def y176 : TI := ⟨.func #[74, 25, 3] #[74, 174] false, 1, 8, [.nilFunc], []⟩
@[simp] theorem y176_s : y176.size = 1 := rfl
@[simp] theorem y176_b : y176.bytes = 8 := rfl
def y177 : TI := ⟨.func #[74] #[3] false, 1, 8, [.nilFunc], []⟩
@[simp] theorem y177_s : y177.size = 1 := rfl
@[simp] theorem y177_b : y177.bytes = 8 := rfl
def y179 : TI := ⟨.func #[74] #[3, 3] false, 1, 8, [.nilFunc], []⟩
@[simp] theorem y179_s : y179.size = 1 := rfl
@[simp] theorem y179_b : y179.bytes = 8 := rfl
def y180 : TI := ⟨.func #[74] #[74, 3, 3] false, 1, 8, [.nilFunc], []⟩
@[simp] theorem y180_s : y180.size = 1 := rfl
@[simp] theorem y180_b : y180.bytes = 8 := rfl
def y181 : TI := ⟨.func #[3, 3] #[3] false, 1, 8, [.nilFunc], []⟩
@[simp] theorem y181_s : y181.size = 1 := rfl
@[simp] theorem y181_b : y181.bytes = 8 := rfl
def y182 : TI := ⟨.func #[74, 25, 183] #[3] false, 1, 8, [.nilFunc], []⟩
@[simp] theorem y182_s : y182.size = 1 := rfl
@[simp] theorem y182_b : y182.bytes = 8 := rfl
def y183 : TI := ⟨.func #[169] #[4] false, 1, 8, [.nilFunc], []⟩
@[simp] theorem y183_s : y183.size = 1 := rfl
@[simp] theorem y183_b : y183.bytes = 8 := rfl
def y184 : TI := ⟨.func #[74, 185] #[4] false, 1, 8, [.nilFunc], []⟩
@[simp] theorem y184_s : y184.size = 1 := rfl
@[simp] theorem y184_b : y184.bytes = 8 := rfl
def y185 : TI := ⟨.func #[92] #[4] false, 1, 8, [.nilFunc], []⟩
@[simp] theorem y185_s : y185.size = 1 := rfl
@[simp] theorem y185_b : y185.bytes = 8 := rfl
def y186 : TI := ⟨.func #[28, 25, 3] #[25] false, 1, 8, [.nilFunc], []⟩
@[simp] theorem y186_s : y186.size = 1 := rfl
@[simp] theorem y186_b : y186.bytes = 8 := rfl
def y187 : TI := ⟨.func #[25] #[4] false, 1, 8, [.nilFunc], []⟩
@[simp] theorem y187_s : y187.size = 1 := rfl
@[simp] theorem y187_b : y187.bytes = 8 := rfl
def y188 : TI := ⟨.func #[28, 25, 3] #[25, 4] false, 1, 8, [.nilFunc], []⟩
@[simp] theorem y188_s : y188.size = 1 := rfl
@[simp] theorem y188_b : y188.bytes = 8 := rfl
def y189 : TI := ⟨.func #[28, 22] #[25] false, 1, 8, [.nilFunc], []⟩
@[simp] theorem y189_s : y189.size = 1 := rfl
@[simp] theorem y189_b : y189.bytes = 8 := rfl
def y190 : TI := ⟨.func #[3] #[4] false, 1, 8, [.nilFunc], []⟩
@[simp] theorem y190_s : y190.size = 1 := rfl
@[simp] theorem y190_b : y190.bytes = 8 := rfl
def y191 : TI := ⟨.func #[28] #[3] false, 1, 8, [.nilFunc], []⟩
@[simp] theorem y191_s : y191.size = 1 := rfl
@[simp] theorem y191_b : y191.bytes = 8 := rfl
def y192 : TI := ⟨.func #[28, 25] #[4] false, 1, 8, [.nilFunc], []⟩
@[simp] theorem y192_s : y192.size = 1 := rfl
@[simp] theorem y192_b : y192.bytes = 8 := rfl
def y193 : TI := ⟨.func #[] #[92] false, 1, 8, [.nilFunc], []⟩
@[simp] theorem y193_s : y193.size = 1 := rfl
@[simp] theorem y193_b : y193.bytes = 8 := rfl
def y194 : TI := ⟨.func #[25, 3, 3, 3] #[] false, 1, 8, [.nilFunc], []⟩
@[simp] theorem y194_s : y194.size = 1 := rfl
@[simp] theorem y194_b : y194.bytes = 8 := rfl
def y195 : TI := ⟨.func #[196] #[3] false, 1, 8, [.nilFunc], []⟩
@[simp] theorem y195_s : y195.size = 1 := rfl
@[simp] theorem y195_b : y195.bytes = 8 := rfl
def y196 : TI := ⟨.int .u64, 1, 8, [.int .u64 0], []⟩
@[simp] theorem y196_s : y196.size = 1 := rfl
@[simp] theorem y196_b : y196.bytes = 8 := rfl
def y197 : TI := ⟨.func #[22, 25] #[25, 22] false, 1, 8, [.nilFunc], []⟩
@[simp] theorem y197_s : y197.size = 1 := rfl
@[simp] theorem y197_b : y197.bytes = 8 := rfl
def y198 : TI := ⟨.slice 25, 1, 24, [.slice none 0 0], []⟩
@[simp] theorem y198_s : y198.size = 1 := rfl
@[simp] theorem y198_b : y198.bytes = 24 := rfl
def y199 : TI := ⟨.func #[119] #[4] false, 1, 8, [.nilFunc], []⟩
@[simp] theorem y199_s : y199.size = 1 := rfl
@[simp] theorem y199_b : y199.bytes = 8 := rfl
def y200 : TI := ⟨.func #[25, 119] #[25] false, 1, 8, [.nilFunc], []⟩
@[simp] theorem y200_s : y200.size = 1 := rfl
@[simp] theorem y200_b : y200.bytes = 8 := rfl
def y201 : TI := ⟨.func #[40, 199] #[4] false, 1, 8, [.nilFunc], []⟩
@[simp] theorem y201_s : y201.size = 1 := rfl
@[simp] theorem y201_b : y201.bytes = 8 := rfl
def y202 : TI := ⟨.slice 203, 1, 24, [.slice none 0 0], []⟩
@[simp] theorem y202_s : y202.size = 1 := rfl
@[simp] theorem y202_b : y202.bytes = 24 := rfl
def y203 : TI := ⟨.slice 206, 1, 24, [.slice none 0 0], []⟩
@[simp] theorem y203_s : y203.size = 1 := rfl
@[simp] theorem y203_b : y203.bytes = 24 := rfl
def y204 : TI := ⟨.func #[28, 22] #[203] false, 1, 8, [.nilFunc], []⟩
@[simp] theorem y204_s : y204.size = 1 := rfl
@[simp] theorem y204_b : y204.bytes = 8 := rfl
def y205 : TI := ⟨.func #[28, 3] #[22] false, 1, 8, [.nilFunc], []⟩
@[simp] theorem y205_s : y205.size = 1 := rfl
@[simp] theorem y205_b : y205.bytes = 8 := rfl
def y206 : TI := ⟨.array 2 3, 2, 16, [.int .i64 0, .int .i64 0], [.int .i64, .int .i64]⟩
@[simp] theorem y206_s : y206.size = 2 := rfl
@[simp] theorem y206_b : y206.bytes = 16 := rfl
def y207 : TI := ⟨.map 130 4, 1, 8, [.map none], []⟩
@[simp] theorem y207_s : y207.size = 1 := rfl
@[simp] theorem y207_b : y207.bytes = 8 := rfl
def y208 : TI := ⟨.struct #[⟨ "k", 28, 0, false, "", "loop.example/g01187/impl", 0⟩, ⟨ "known", 207, 4, false, "", "loop.example/g01187/impl", 32⟩], 5, 40, [.int .i64 0, .int .i64 0, .int .i64 0, .int .i64 0, .map none], []⟩
@[simp] theorem y208_s : y208.size = 5 := rfl
@[simp] theorem y208_b : y208.bytes = 40 := rfl
def y209 : TI := ⟨.struct #[⟨ "k", 28, 0, false, "", "loop.example/g01187/impl", 0⟩, ⟨ "known", 207, 4, false, "", "loop.example/g01187/impl", 32⟩], 5, 40, [.int .i64 0, .int .i64 0, .int .i64 0, .int .i64 0, .map none], []⟩
@[simp] theorem y209_s : y209.size = 5 := rfl
@[simp] theorem y209_b : y209.bytes = 40 := rfl
def y210 : TI := ⟨.func #[25, 190] #[4] false, 1, 8, [.nilFunc], []⟩
@[simp] theorem y210_s : y210.size = 1 := rfl
@[simp] theorem y210_b : y210.bytes = 8 := rfl
def y211 : TI := ⟨.func #[28, 22, 3] #[22] false, 1, 8, [.nilFunc], []⟩
@[simp] theorem y211_s : y211.size = 1 := rfl
@[simp] theorem y211_b : y211.bytes = 8 := rfl
def y212 : TI := ⟨.func #[28] #[28, 4] false, 1, 8, [.nilFunc], []⟩
@[simp] theorem y212_s : y212.size = 1 := rfl
@[simp] theorem y212_b : y212.bytes = 8 := rfl
def y213 : TI := ⟨.func #[22] #[4] false, 1, 8, [.nilFunc], []⟩
@[simp] theorem y213_s : y213.size = 1 := rfl
@[simp] theorem y213_b : y213.bytes = 8 := rfl
def y214 : TI := ⟨.func #[25, 3] #[4] false, 1, 8, [.nilFunc], []⟩
@[simp] theorem y214_s : y214.size = 1 := rfl
@[simp] theorem y214_b : y214.bytes = 8 := rfl
def y215 : TI := ⟨.func #[25, 3, 3] #[4] false, 1, 8, [.nilFunc], []⟩
@[simp] theorem y215_s : y215.size = 1 := rfl
@[simp] theorem y215_b : y215.bytes = 8 := rfl
def y216 : TI := ⟨.pointer 92, 1, 8, [.pointer none], []⟩
@[simp] theorem y216_s : y216.size = 1 := rfl
@[simp] theorem y216_b : y216.bytes = 8 := rfl
def y217 : TI := ⟨.func #[74, 185] #[3] false, 1, 8, [.nilFunc], []⟩
@[simp] theorem y217_s : y217.size = 1 := rfl
@[simp] theorem y217_b : y217.bytes = 8 := rfl
def y218 : TI := ⟨.func #[25, 3, 3] #[25] false, 1, 8, [.nilFunc], []⟩
@[simp] theorem y218_s : y218.size = 1 := rfl
@[simp] theorem y218_b : y218.bytes = 8 := rfl
def y219 : TI := ⟨.func #[28, 25, 3, 3, 3] #[25, 4] false, 1, 8, [.nilFunc], []⟩
@[simp] theorem y219_s : y219.size = 1 := rfl
@[simp] theorem y219_b : y219.bytes = 8 := rfl
def y220 : TI := ⟨.func #[25, 3, 3] #[] false, 1, 8, [.nilFunc], []⟩
@[simp] theorem y220_s : y220.size = 1 := rfl
@[simp] theorem y220_b : y220.bytes = 8 := rfl
def y221 : TI := ⟨.int .i64, 1, 8, [.int .i64 0], []⟩
@[simp] theorem y221_s : y221.size = 1 := rfl
@[simp] theorem y221_b : y221.bytes = 8 := rfl
def y223 : TI := ⟨.func #[25, 3, 3] #[3, 221] false, 1, 8, [.nilFunc], []⟩
@[simp] theorem y223_s : y223.size = 1 := rfl
@[simp] theorem y223_b : y223.bytes = 8 := rfl
def y224 : TI := ⟨.func #[3, 3] #[4] false, 1, 8, [.nilFunc], []⟩
@[simp] theorem y224_s : y224.size = 1 := rfl
@[simp] theorem y224_b : y224.bytes = 8 := rfl
def y225 : TI := ⟨.func #[25, 3, 3, 3] #[3] false, 1, 8, [.nilFunc], []⟩
@[simp] theorem y225_s : y225.size = 1 := rfl
@[simp] theorem y225_b : y225.bytes = 8 := rfl
def y226 : TI := ⟨.func #[25, 3, 3, 3] #[3, 4] false, 1, 8, [.nilFunc], []⟩
@[simp] theorem y226_s : y226.size = 1 := rfl
@[simp] theorem y226_b : y226.bytes = 8 := rfl
def y227 : TI := ⟨.func #[228] #[3] false, 1, 8, [.nilFunc], []⟩
@[simp] theorem y227_s : y227.size = 1 := rfl
@[simp] theorem y227_b : y227.bytes = 8 := rfl
def y228 : TI := ⟨.int .u32, 1, 4, [.int .u32 0], []⟩
@[simp] theorem y228_s : y228.size = 1 := rfl
@[simp] theorem y228_b : y228.bytes = 4 := rfl
def y229 : TI := ⟨.func #[148] #[3] false, 1, 8, [.nilFunc], []⟩
@[simp] theorem y229_s : y229.size = 1 := rfl
@[simp] theorem y229_b : y229.bytes = 8 := rfl
def y230 : TI := ⟨.func #[40, 199] #[3] false, 1, 8, [.nilFunc], []⟩
@[simp] theorem y230_s : y230.size = 1 := rfl
@[simp] theorem y230_b : y230.bytes = 8 := rfl
def y231 : TI := ⟨.func #[25, 190] #[3] false, 1, 8, [.nilFunc], []⟩
@[simp] theorem y231_s : y231.size = 1 := rfl
@[simp] theorem y231_b : y231.bytes = 8 := rfl
def y232 : TI := ⟨.int .u64, 1, 8, [.int .u64 0], []⟩
@[simp] theorem y232_s : y232.size = 1 := rfl
@[simp] theorem y232_b : y232.bytes = 8 := rfl
def y233 : TI := ⟨.func #[3] #[196] false, 1, 8, [.nilFunc], []⟩
@[simp] theorem y233_s : y233.size = 1 := rfl
@[simp] theorem y233_b : y233.bytes = 8 := rfl
def y234 : TI := ⟨.func #[] #[148] false, 1, 8, [.nilFunc], []⟩
@[simp] theorem y234_s : y234.size = 1 := rfl
@[simp] theorem y234_b : y234.bytes = 8 := rfl
def y235 : TI := ⟨.func #[25, 3, 236] #[3] false, 1, 8, [.nilFunc], []⟩
@[simp] theorem y235_s : y235.size = 1 := rfl
@[simp] theorem y235_b : y235.bytes = 8 := rfl
def y236 : TI := ⟨.pointer 3, 1, 8, [.pointer none], []⟩
@[simp] theorem y236_s : y236.size = 1 := rfl
@[simp] theorem y236_b : y236.bytes = 8 := rfl
def y237 : TI := ⟨.func #[25, 3, 3, 3, 236] #[3] false, 1, 8, [.nilFunc], []⟩
@[simp] theorem y237_s : y237.size = 1 := rfl
@[simp] theorem y237_b : y237.bytes = 8 := rfl
def y238 : TI := ⟨.pointer 232, 1, 8, [.pointer none], []⟩
@[simp] theorem y238_s : y238.size = 1 := rfl
@[simp] theorem y238_b : y238.bytes = 8 := rfl
def y239 : TI := ⟨.func #[25, 3, 3, 236] #[3, 3] false, 1, 8, [.nilFunc], []⟩
@[simp] theorem y239_s : y239.size = 1 := rfl
@[simp] theorem y239_b : y239.bytes = 8 := rfl
def y240 : TI := ⟨.func #[] #[9] false, 1, 8, [.nilFunc], []⟩
@[simp] theorem y240_s : y240.size = 1 := rfl
@[simp] theorem y240_b : y240.bytes = 8 := rfl
def y241 : TI := ⟨.struct #[⟨ "_interface", 17, 0, false, "", "runtime", 0⟩, ⟨ "concrete", 17, 1, false, "", "runtime", 8⟩, ⟨ "asserted", 17, 2, false, "", "runtime", 16⟩, ⟨ "missingMethod", 9, 3, false, "", "runtime", 24⟩], 4, 40, [.pointer none, .pointer none, .pointer none, .string .empty], []⟩
@[simp] theorem y241_s : y241.size = 4 := rfl
@[simp] theorem y241_b : y241.bytes = 40 := rfl
def y242 : TI := ⟨.struct #[⟨ "_interface", 17, 0, false, "", "runtime", 0⟩, ⟨ "concrete", 17, 1, false, "", "runtime", 8⟩, ⟨ "asserted", 17, 2, false, "", "runtime", 16⟩, ⟨ "missingMethod", 9, 3, false, "", "runtime", 24⟩], 4, 40, [.pointer none, .pointer none, .pointer none, .string .empty], []⟩
@[simp] theorem y242_s : y242.size = 4 := rfl
@[simp] theorem y242_b : y242.bytes = 40 := rfl
def y246 : TI := ⟨.int .u8, 1, 1, [.int .u8 0], []⟩
@[simp] theorem y246_s : y246.size = 1 := rfl
@[simp] theorem y246_b : y246.bytes = 1 := rfl
def y247 : TI := ⟨.int .u8, 1, 1, [.int .u8 0], []⟩
@[simp] theorem y247_s : y247.size = 1 := rfl
@[simp] theorem y247_b : y247.bytes = 1 := rfl
def y248 : TI := ⟨.func #[254, 254] #[4] false, 1, 8, [.nilFunc], []⟩
@[simp] theorem y248_s : y248.size = 1 := rfl
@[simp] theorem y248_b : y248.bytes = 8 := rfl
def y249 : TI := ⟨.pointer 5, 1, 8, [.pointer none], []⟩
@[simp] theorem y249_s : y249.size = 1 := rfl
@[simp] theorem y249_b : y249.bytes = 8 := rfl
def y250 : TI := ⟨.int .i32, 1, 4, [.int .i32 0], []⟩
@[simp] theorem y250_s : y250.size = 1 := rfl
@[simp] theorem y250_b : y250.bytes = 4 := rfl
def y251 : TI := ⟨.int .i32, 1, 4, [.int .i32 0], []⟩
@[simp] theorem y251_s : y251.size = 1 := rfl
@[simp] theorem y251_b : y251.bytes = 4 := rfl
def y252 : TI := ⟨.struct #[⟨ "Size_", 12, 0, false, "", "", 0⟩, ⟨ "PtrBytes", 12, 1, false, "", "", 8⟩, ⟨ "Hash", 228, 2, false, "", "", 16⟩, ⟨ "TFlag", 246, 3, false, "", "", 20⟩, ⟨ "Align_", 5, 4, false, "", "", 21⟩, ⟨ "FieldAlign_", 5, 5, false, "", "", 22⟩, ⟨ "Kind_", 247, 6, false, "", "", 23⟩, ⟨ "Equal", 248, 7, false, "", "", 24⟩, ⟨ "GCData", 249, 8, false, "", "", 32⟩, ⟨ "Str", 250, 9, false, "", "", 40⟩, ⟨ "PtrToThis", 251, 10, false, "", "", 44⟩], 11, 48, [.int .u64 0, .int .u64 0, .int .u32 0, .int .u8 0, .int .u8 0, .int .u8 0, .int .u8 0, .nilFunc, .pointer none, .int .i32 0, .int .i32 0], []⟩
@[simp] theorem y252_s : y252.size = 11 := rfl
@[simp] theorem y252_b : y252.bytes = 48 := rfl
def y253 : TI := ⟨.struct #[⟨ "Size_", 12, 0, false, "", "", 0⟩, ⟨ "PtrBytes", 12, 1, false, "", "", 8⟩, ⟨ "Hash", 228, 2, false, "", "", 16⟩, ⟨ "TFlag", 246, 3, false, "", "", 20⟩, ⟨ "Align_", 5, 4, false, "", "", 21⟩, ⟨ "FieldAlign_", 5, 5, false, "", "", 22⟩, ⟨ "Kind_", 247, 6, false, "", "", 23⟩, ⟨ "Equal", 248, 7, false, "", "", 24⟩, ⟨ "GCData", 249, 8, false, "", "", 32⟩, ⟨ "Str", 250, 9, false, "", "", 40⟩, ⟨ "PtrToThis", 251, 10, false, "", "", 44⟩], 11, 48, [.int .u64 0, .int .u64 0, .int .u32 0, .int .u8 0, .int .u8 0, .int .u8 0, .int .u8 0, .nilFunc, .pointer none, .int .i32 0, .int .i32 0], []⟩
@[simp] theorem y253_s : y253.size = 11 := rfl
@[simp] theorem y253_b : y253.bytes = 48 := rfl
def T : TT := fun t => match t with
  | 1 => some y1
  | 2 => some y2
  | 3 => some y3
  | 4 => some y4
  | 5 => some y5
  | 6 => some y6
  | 7 => some y7
  | 8 => some y8
  | 9 => some y9
  | 10 => some y10
  | 11 => some y11
  | 12 => some y12
  | 13 => some y13
  | 14 => some y14
  | 15 => some y15
  | 16 => some y16
  | 17 => some y17
  | 18 => some y18
  | 19 => some y19
  | 21 => some y21
  | 22 => some y22
  | 23 => some y23
  | 24 => some y24
  | 25 => some y25
  | 27 => some y27
  | 28 => some y28
  | 29 => some y29
  | 30 => some y30
  | 31 => some y31
  | 32 => some y32
  | 33 => some y33
  | 34 => some y34
  | 35 => some y35
  | 36 => some y36
  | 37 => some y37
  | 39 => some y39
  | 40 => some y40
  | 41 => some y41
  | 42 => some y42
  | 43 => some y43
  | 44 => some y44
  | 45 => some y45
  | 47 => some y47
  | 48 => some y48
  | 49 => some y49
  | 50 => some y50
  | 51 => some y51
  | 52 => some y52
  | 53 => some y53
  | 54 => some y54
  | 55 => some y55
  | 56 => some y56
  | 57 => some y57
  | 59 => some y59
  | 60 => some y60
  | 61 => some y61
  | 63 => some y63
  | 64 => some y64
  | 65 => some y65
  | 66 => some y66
  | 68 => some y68
  | 70 => some y70
  | 71 => some y71
  | 72 => some y72
  | 73 => some y73
  | 74 => some y74
  | 76 => some y76
  | 78 => some y78
  | 80 => some y80
  | 81 => some y81
  | 83 => some y83
  | 85 => some y85
  | 86 => some y86
  | 87 => some y87
  | 88 => some y88
  | 89 => some y89
  | 90 => some y90
  | 91 => some y91
  | 92 => some y92
  | 94 => some y94
  | 95 => some y95
  | 97 => some y97
  | 98 => some y98
  | 99 => some y99
  | 101 => some y101
  | 102 => some y102
  | 103 => some y103
  | 105 => some y105
  | 106 => some y106
  | 107 => some y107
  | 108 => some y108
  | 110 => some y110
  | 112 => some y112
  | 113 => some y113
  | 114 => some y114
  | 115 => some y115
  | 116 => some y116
  | 117 => some y117
  | 118 => some y118
  | 119 => some y119
  | 120 => some y120
  | 121 => some y121
  | 122 => some y122
  | 123 => some y123
  | 124 => some y124
  | 125 => some y125
  | 126 => some y126
  | 127 => some y127
  | 128 => some y128
  | 129 => some y129
  | 130 => some y130
  | 131 => some y131
  | 132 => some y132
  | 134 => some y134
  | 135 => some y135
  | 136 => some y136
  | 137 => some y137
  | 138 => some y138
  | 139 => some y139
  | 140 => some y140
  | 141 => some y141
  | 142 => some y142
  | 143 => some y143
  | 144 => some y144
  | 145 => some y145
  | 146 => some y146
  | 147 => some y147
  | 148 => some y148
  | 149 => some y149
  | 150 => some y150
  | 151 => some y151
  | 152 => some y152
  | 153 => some y153
  | 154 => some y154
  | 155 => some y155
  | 156 => some y156
  | 157 => some y157
  | 159 => some y159
  | 161 => some y161
  | 162 => some y162
  | 163 => some y163
  | 164 => some y164
  | 165 => some y165
  | 166 => some y166
  | 167 => some y167
  | 168 => some y168
  | 169 => some y169
  | 170 => some y170
  | 171 => some y171
  | 172 => some y172
  | 173 => some y173
  | 174 => some y174
  | 176 => some y176
  | 177 => some y177
  | 179 => some y179
  | 180 => some y180
  | 181 => some y181
  | 182 => some y182
  | 183 => some y183
  | 184 => some y184
  | 185 => some y185
  | 186 => some y186
  | 187 => some y187
  | 188 => some y188
  | 189 => some y189
  | 190 => some y190
  | 191 => some y191
  | 192 => some y192
  | 193 => some y193
  | 194 => some y194
  | 195 => some y195
  | 196 => some y196
  | 197 => some y197
  | 198 => some y198
  | 199 => some y199
  | 200 => some y200
  | 201 => some y201
  | 202 => some y202
  | 203 => some y203
  | 204 => some y204
  | 205 => some y205
  | 206 => some y206
  | 207 => some y207
  | 208 => some y208
  | 209 => some y209
  | 210 => some y210
  | 211 => some y211
  | 212 => some y212
  | 213 => some y213
  | 214 => some y214
  | 215 => some y215
  | 216 => some y216
  | 217 => some y217
  | 218 => some y218
  | 219 => some y219
  | 220 => some y220
  | 221 => some y221
  | 223 => some y223
  | 224 => some y224
  | 225 => some y225
  | 226 => some y226
  | 227 => some y227
  | 228 => some y228
  | 229 => some y229
  | 230 => some y230
  | 231 => some y231
  | 232 => some y232
  | 233 => some y233
  | 234 => some y234
  | 235 => some y235
  | 236 => some y236
  | 237 => some y237
  | 238 => some y238
  | 239 => some y239
  | 240 => some y240
  | 241 => some y241
  | 242 => some y242
  | 246 => some y246
  | 247 => some y247
  | 248 => some y248
  | 249 => some y249
  | 250 => some y250
  | 251 => some y251
  | 252 => some y252
  | 253 => some y253
  | _ => none

theorem ti1 : (Try.prog.info? 1).map (fun i => (i.size, i.bytes, i.zero)) = some (1, 8, some (.nilFunc)) := by kernel_rfl
theorem ti2 : (Try.prog.info? 2).map (fun i => (i.size, i.bytes, i.zero)) = some (1, 8, some (.int .i64 0)) := by kernel_rfl
theorem ti3 : (Try.prog.info? 3).map (fun i => (i.size, i.bytes, i.zero)) = some (1, 8, some (.int .i64 0)) := by kernel_rfl
theorem ti4 : (Try.prog.info? 4).map (fun i => (i.size, i.bytes, i.zero)) = some (1, 1, some (.bool false)) := by kernel_rfl
theorem ti5 : (Try.prog.info? 5).map (fun i => (i.size, i.bytes, i.zero)) = some (1, 1, some (.int .u8 0)) := by kernel_rfl
theorem ti6 : (Try.prog.info? 6).map (fun i => (i.size, i.bytes, i.zero)) = some (1, 1, some (.int .u8 0)) := by kernel_rfl
theorem ti7 : (Try.prog.info? 7).map (fun i => (i.size, i.bytes, i.zero)) = some (4, 24, some (.agg #[.int .i64 0, .int .i64 0, .bool false, .int .u8 0])) := by kernel_rfl
theorem ti8 : (Try.prog.info? 8).map (fun i => (i.size, i.bytes, i.zero)) = some (4, 24, some (.agg #[.int .i64 0, .int .i64 0, .bool false, .int .u8 0])) := by kernel_rfl
theorem ti9 : (Try.prog.info? 9).map (fun i => (i.size, i.bytes, i.zero)) = some (1, 16, some (.string .empty)) := by kernel_rfl
theorem ti10 : (Try.prog.info? 10).map (fun i => (i.size, i.bytes, i.zero)) = some (1, 16, some (.string .empty)) := by kernel_rfl
theorem ti11 : (Try.prog.info? 11).map (fun i => (i.size, i.bytes, i.zero)) = some (1, 16, some (.string .empty)) := by kernel_rfl
theorem ti12 : (Try.prog.info? 12).map (fun i => (i.size, i.bytes, i.zero)) = some (1, 8, some (.int .u64 0)) := by kernel_rfl
theorem ti13 : (Try.prog.info? 13).map (fun i => (i.size, i.bytes, i.zero)) = some (2, 24, some (.agg #[.string .empty, .int .u64 0])) := by kernel_rfl
theorem ti14 : (Try.prog.info? 14).map (fun i => (i.size, i.bytes, i.zero)) = some (2, 24, some (.agg #[.string .empty, .int .u64 0])) := by kernel_rfl
theorem ti15 : (Try.prog.info? 15).map (fun i => (i.size, i.bytes, i.zero)) = some (1, 8, some (.pointer none)) := by kernel_rfl
theorem ti16 : (Try.prog.info? 16).map (fun i => (i.size, i.bytes, i.zero)) = some (1, 8, some (.pointer none)) := by kernel_rfl
theorem ti17 : (Try.prog.info? 17).map (fun i => (i.size, i.bytes, i.zero)) = some (1, 8, some (.pointer none)) := by kernel_rfl
theorem ti18 : (Try.prog.info? 18).map (fun i => (i.size, i.bytes, i.zero)) = some (1, 8, some (.agg #[.pointer none])) := by kernel_rfl
theorem ti19 : (Try.prog.info? 19).map (fun i => (i.size, i.bytes, i.zero)) = some (1, 8, some (.agg #[.pointer none])) := by kernel_rfl
theorem ti21 : (Try.prog.info? 21).map (fun i => (i.size, i.bytes, i.zero)) = some (1, 4, some (.int .i32 0)) := by kernel_rfl
theorem ti22 : (Try.prog.info? 22).map (fun i => (i.size, i.bytes, i.zero)) = some (4, 32, some (.agg #[.int .i64 0, .int .i64 0, .int .i64 0, .int .i64 0])) := by kernel_rfl
theorem ti23 : (Try.prog.info? 23).map (fun i => (i.size, i.bytes, i.zero)) = some (4, 32, some (.agg #[.int .i64 0, .int .i64 0, .int .i64 0, .int .i64 0])) := by kernel_rfl
theorem ti24 : (Try.prog.info? 24).map (fun i => (i.size, i.bytes, i.zero)) = some (4, 32, some (.agg #[.int .i64 0, .int .i64 0, .int .i64 0, .int .i64 0])) := by kernel_rfl
theorem ti25 : (Try.prog.info? 25).map (fun i => (i.size, i.bytes, i.zero)) = some (1, 24, some (.slice none 0 0)) := by kernel_rfl
theorem ti27 : (Try.prog.info? 27).map (fun i => (i.size, i.bytes, i.zero)) = some (1, 8, some (.nilFunc)) := by kernel_rfl
theorem ti28 : (Try.prog.info? 28).map (fun i => (i.size, i.bytes, i.zero)) = some (4, 32, some (.agg #[.int .i64 0, .int .i64 0, .int .i64 0, .int .i64 0])) := by kernel_rfl
theorem ti29 : (Try.prog.info? 29).map (fun i => (i.size, i.bytes, i.zero)) = some (1, 8, some (.nilFunc)) := by kernel_rfl
theorem ti30 : (Try.prog.info? 30).map (fun i => (i.size, i.bytes, i.zero)) = some (1, 8, some (.nilFunc)) := by kernel_rfl
theorem ti31 : (Try.prog.info? 31).map (fun i => (i.size, i.bytes, i.zero)) = some (1, 8, some (.nilFunc)) := by kernel_rfl
theorem ti32 : (Try.prog.info? 32).map (fun i => (i.size, i.bytes, i.zero)) = some (1, 8, some (.nilFunc)) := by kernel_rfl
theorem ti33 : (Try.prog.info? 33).map (fun i => (i.size, i.bytes, i.zero)) = some (1, 8, some (.nilFunc)) := by kernel_rfl
theorem ti34 : (Try.prog.info? 34).map (fun i => (i.size, i.bytes, i.zero)) = some (1, 8, some (.nilFunc)) := by kernel_rfl
theorem ti35 : (Try.prog.info? 35).map (fun i => (i.size, i.bytes, i.zero)) = some (1, 8, some (.nilFunc)) := by kernel_rfl
theorem ti36 : (Try.prog.info? 36).map (fun i => (i.size, i.bytes, i.zero)) = some (1, 24, some (.slice none 0 0)) := by kernel_rfl
theorem ti37 : (Try.prog.info? 37).map (fun i => (i.size, i.bytes, i.zero)) = some (1, 8, some (.nilFunc)) := by kernel_rfl
theorem ti39 : (Try.prog.info? 39).map (fun i => (i.size, i.bytes, i.zero)) = some (1, 8, some (.nilFunc)) := by kernel_rfl
theorem ti40 : (Try.prog.info? 40).map (fun i => (i.size, i.bytes, i.zero)) = some (1, 24, some (.slice none 0 0)) := by kernel_rfl
theorem ti41 : (Try.prog.info? 41).map (fun i => (i.size, i.bytes, i.zero)) = some (1, 8, some (.nilFunc)) := by kernel_rfl
theorem ti42 : (Try.prog.info? 42).map (fun i => (i.size, i.bytes, i.zero)) = some (1, 8, some (.nilFunc)) := by kernel_rfl
theorem ti43 : (Try.prog.info? 43).map (fun i => (i.size, i.bytes, i.zero)) = some (1, 8, some (.nilFunc)) := by kernel_rfl
theorem ti44 : (Try.prog.info? 44).map (fun i => (i.size, i.bytes, i.zero)) = some (1, 8, some (.nilFunc)) := by kernel_rfl
theorem ti45 : (Try.prog.info? 45).map (fun i => (i.size, i.bytes, i.zero)) = some (1, 8, some (.nilFunc)) := by kernel_rfl
theorem ti47 : (Try.prog.info? 47).map (fun i => (i.size, i.bytes, i.zero)) = some (1, 8, some (.nilFunc)) := by kernel_rfl
theorem ti48 : (Try.prog.info? 48).map (fun i => (i.size, i.bytes, i.zero)) = some (1, 8, some (.nilFunc)) := by kernel_rfl
theorem ti49 : (Try.prog.info? 49).map (fun i => (i.size, i.bytes, i.zero)) = some (1, 8, some (.nilFunc)) := by kernel_rfl
theorem ti50 : (Try.prog.info? 50).map (fun i => (i.size, i.bytes, i.zero)) = some (1, 8, some (.nilFunc)) := by kernel_rfl
theorem ti51 : (Try.prog.info? 51).map (fun i => (i.size, i.bytes, i.zero)) = some (1, 8, some (.nilFunc)) := by kernel_rfl
theorem ti52 : (Try.prog.info? 52).map (fun i => (i.size, i.bytes, i.zero)) = some (1, 8, some (.nilFunc)) := by kernel_rfl
theorem ti53 : (Try.prog.info? 53).map (fun i => (i.size, i.bytes, i.zero)) = some (1, 24, some (.slice none 0 0)) := by kernel_rfl
theorem ti54 : (Try.prog.info? 54).map (fun i => (i.size, i.bytes, i.zero)) = some (1, 8, some (.nilFunc)) := by kernel_rfl
theorem ti55 : (Try.prog.info? 55).map (fun i => (i.size, i.bytes, i.zero)) = some (1, 8, some (.nilFunc)) := by kernel_rfl
theorem ti56 : (Try.prog.info? 56).map (fun i => (i.size, i.bytes, i.zero)) = some (11, 88, some (.agg #[.int .i64 0, .int .i64 0, .int .i64 0, .int .i64 0, .int .i64 0, .int .i64 0, .int .i64 0, .int .i64 0, .int .i64 0, .int .i64 0, .int .i64 0])) := by kernel_rfl
theorem ti57 : (Try.prog.info? 57).map (fun i => (i.size, i.bytes, i.zero)) = some (11, 88, some (.agg #[.int .i64 0, .int .i64 0, .int .i64 0, .int .i64 0, .int .i64 0, .int .i64 0, .int .i64 0, .int .i64 0, .int .i64 0, .int .i64 0, .int .i64 0])) := by kernel_rfl
theorem ti59 : (Try.prog.info? 59).map (fun i => (i.size, i.bytes, i.zero)) = some (1, 8, some (.nilFunc)) := by kernel_rfl
theorem ti60 : (Try.prog.info? 60).map (fun i => (i.size, i.bytes, i.zero)) = some (3, 24, some (.agg #[.int .i64 0, .int .i64 0, .int .i64 0])) := by kernel_rfl
theorem ti61 : (Try.prog.info? 61).map (fun i => (i.size, i.bytes, i.zero)) = some (3, 24, some (.agg #[.int .i64 0, .int .i64 0, .int .i64 0])) := by kernel_rfl
theorem ti63 : (Try.prog.info? 63).map (fun i => (i.size, i.bytes, i.zero)) = some (1, 8, some (.nilFunc)) := by kernel_rfl
theorem ti64 : (Try.prog.info? 64).map (fun i => (i.size, i.bytes, i.zero)) = some (1, 8, some (.nilFunc)) := by kernel_rfl
theorem ti65 : (Try.prog.info? 65).map (fun i => (i.size, i.bytes, i.zero)) = some (1, 8, some (.nilFunc)) := by kernel_rfl
theorem ti66 : (Try.prog.info? 66).map (fun i => (i.size, i.bytes, i.zero)) = some (1, 24, some (.slice none 0 0)) := by kernel_rfl
theorem ti68 : (Try.prog.info? 68).map (fun i => (i.size, i.bytes, i.zero)) = some (1, 8, some (.nilFunc)) := by kernel_rfl
theorem ti70 : (Try.prog.info? 70).map (fun i => (i.size, i.bytes, i.zero)) = some (1, 8, some (.nilFunc)) := by kernel_rfl
theorem ti71 : (Try.prog.info? 71).map (fun i => (i.size, i.bytes, i.zero)) = some (1, 8, some (.nilFunc)) := by kernel_rfl
theorem ti72 : (Try.prog.info? 72).map (fun i => (i.size, i.bytes, i.zero)) = some (1, 8, some (.nilFunc)) := by kernel_rfl
theorem ti73 : (Try.prog.info? 73).map (fun i => (i.size, i.bytes, i.zero)) = some (1, 8, some (.nilFunc)) := by kernel_rfl
theorem ti74 : (Try.prog.info? 74).map (fun i => (i.size, i.bytes, i.zero)) = some (1, 24, some (.slice none 0 0)) := by kernel_rfl
theorem ti76 : (Try.prog.info? 76).map (fun i => (i.size, i.bytes, i.zero)) = some (1, 8, some (.nilFunc)) := by kernel_rfl
theorem ti78 : (Try.prog.info? 78).map (fun i => (i.size, i.bytes, i.zero)) = some (1, 8, some (.nilFunc)) := by kernel_rfl
theorem ti80 : (Try.prog.info? 80).map (fun i => (i.size, i.bytes, i.zero)) = some (1, 8, some (.nilFunc)) := by kernel_rfl
theorem ti81 : (Try.prog.info? 81).map (fun i => (i.size, i.bytes, i.zero)) = some (1, 8, some (.nilFunc)) := by kernel_rfl
theorem ti83 : (Try.prog.info? 83).map (fun i => (i.size, i.bytes, i.zero)) = some (1, 8, some (.nilFunc)) := by kernel_rfl
theorem ti85 : (Try.prog.info? 85).map (fun i => (i.size, i.bytes, i.zero)) = some (1, 8, some (.nilFunc)) := by kernel_rfl
theorem ti86 : (Try.prog.info? 86).map (fun i => (i.size, i.bytes, i.zero)) = some (1, 8, some (.nilFunc)) := by kernel_rfl
theorem ti87 : (Try.prog.info? 87).map (fun i => (i.size, i.bytes, i.zero)) = some (1, 8, some (.nilFunc)) := by kernel_rfl
theorem ti88 : (Try.prog.info? 88).map (fun i => (i.size, i.bytes, i.zero)) = some (1, 8, some (.nilFunc)) := by kernel_rfl
theorem ti89 : (Try.prog.info? 89).map (fun i => (i.size, i.bytes, i.zero)) = some (1, 8, some (.nilFunc)) := by kernel_rfl
theorem ti90 : (Try.prog.info? 90).map (fun i => (i.size, i.bytes, i.zero)) = some (1, 8, some (.nilFunc)) := by kernel_rfl
theorem ti91 : (Try.prog.info? 91).map (fun i => (i.size, i.bytes, i.zero)) = some (3, 24, some (.agg #[.int .i64 0, .int .i64 0, .int .i64 0])) := by kernel_rfl
theorem ti92 : (Try.prog.info? 92).map (fun i => (i.size, i.bytes, i.zero)) = some (3, 24, some (.agg #[.int .i64 0, .int .i64 0, .int .i64 0])) := by kernel_rfl
theorem ti94 : (Try.prog.info? 94).map (fun i => (i.size, i.bytes, i.zero)) = some (1, 8, some (.nilFunc)) := by kernel_rfl
theorem ti95 : (Try.prog.info? 95).map (fun i => (i.size, i.bytes, i.zero)) = some (1, 8, some (.nilFunc)) := by kernel_rfl
theorem ti97 : (Try.prog.info? 97).map (fun i => (i.size, i.bytes, i.zero)) = some (1, 8, some (.nilFunc)) := by kernel_rfl
theorem ti98 : (Try.prog.info? 98).map (fun i => (i.size, i.bytes, i.zero)) = some (1, 8, some (.nilFunc)) := by kernel_rfl
theorem ti99 : (Try.prog.info? 99).map (fun i => (i.size, i.bytes, i.zero)) = some (1, 8, some (.nilFunc)) := by kernel_rfl
theorem ti101 : (Try.prog.info? 101).map (fun i => (i.size, i.bytes, i.zero)) = some (1, 8, some (.nilFunc)) := by kernel_rfl
theorem ti102 : (Try.prog.info? 102).map (fun i => (i.size, i.bytes, i.zero)) = some (1, 8, some (.nilFunc)) := by kernel_rfl
theorem ti103 : (Try.prog.info? 103).map (fun i => (i.size, i.bytes, i.zero)) = some (1, 8, some (.nilFunc)) := by kernel_rfl
theorem ti105 : (Try.prog.info? 105).map (fun i => (i.size, i.bytes, i.zero)) = some (1, 8, some (.nilFunc)) := by kernel_rfl
theorem ti106 : (Try.prog.info? 106).map (fun i => (i.size, i.bytes, i.zero)) = some (1, 8, some (.nilFunc)) := by kernel_rfl
theorem ti107 : (Try.prog.info? 107).map (fun i => (i.size, i.bytes, i.zero)) = some (1, 8, some (.nilFunc)) := by kernel_rfl
theorem ti108 : (Try.prog.info? 108).map (fun i => (i.size, i.bytes, i.zero)) = some (1, 8, some (.nilFunc)) := by kernel_rfl
theorem ti110 : (Try.prog.info? 110).map (fun i => (i.size, i.bytes, i.zero)) = some (1, 8, some (.nilFunc)) := by kernel_rfl
theorem ti112 : (Try.prog.info? 112).map (fun i => (i.size, i.bytes, i.zero)) = some (1, 8, some (.nilFunc)) := by kernel_rfl
theorem ti113 : (Try.prog.info? 113).map (fun i => (i.size, i.bytes, i.zero)) = some (1, 8, some (.nilFunc)) := by kernel_rfl
theorem ti114 : (Try.prog.info? 114).map (fun i => (i.size, i.bytes, i.zero)) = some (1, 8, some (.nilFunc)) := by kernel_rfl
theorem ti115 : (Try.prog.info? 115).map (fun i => (i.size, i.bytes, i.zero)) = some (1, 8, some (.nilFunc)) := by kernel_rfl
theorem ti116 : (Try.prog.info? 116).map (fun i => (i.size, i.bytes, i.zero)) = some (1, 8, some (.nilFunc)) := by kernel_rfl
theorem ti117 : (Try.prog.info? 117).map (fun i => (i.size, i.bytes, i.zero)) = some (1, 8, some (.nilFunc)) := by kernel_rfl
theorem ti118 : (Try.prog.info? 118).map (fun i => (i.size, i.bytes, i.zero)) = some (3, 24, some (.agg #[.int .i64 0, .int .i64 0, .int .i64 0])) := by kernel_rfl
theorem ti119 : (Try.prog.info? 119).map (fun i => (i.size, i.bytes, i.zero)) = some (3, 24, some (.agg #[.int .i64 0, .int .i64 0, .int .i64 0])) := by kernel_rfl
theorem ti120 : (Try.prog.info? 120).map (fun i => (i.size, i.bytes, i.zero)) = some (1, 8, some (.nilFunc)) := by kernel_rfl
theorem ti121 : (Try.prog.info? 121).map (fun i => (i.size, i.bytes, i.zero)) = some (3, 24, some (.agg #[.int .i64 0, .int .i64 0, .int .i64 0])) := by kernel_rfl
theorem ti122 : (Try.prog.info? 122).map (fun i => (i.size, i.bytes, i.zero)) = some (1, 8, some (.pointer none)) := by kernel_rfl
theorem ti123 : (Try.prog.info? 123).map (fun i => (i.size, i.bytes, i.zero)) = some (5, 56, some (.agg #[.int .i64 0, .int .i64 0, .int .i64 0, .int .i64 0, .slice none 0 0])) := by kernel_rfl
theorem ti124 : (Try.prog.info? 124).map (fun i => (i.size, i.bytes, i.zero)) = some (5, 56, some (.agg #[.int .i64 0, .int .i64 0, .int .i64 0, .int .i64 0, .slice none 0 0])) := by kernel_rfl
theorem ti125 : (Try.prog.info? 125).map (fun i => (i.size, i.bytes, i.zero)) = some (1, 8, some (.nilFunc)) := by kernel_rfl
theorem ti126 : (Try.prog.info? 126).map (fun i => (i.size, i.bytes, i.zero)) = some (1, 8, some (.nilFunc)) := by kernel_rfl
theorem ti127 : (Try.prog.info? 127).map (fun i => (i.size, i.bytes, i.zero)) = some (1, 8, some (.nilFunc)) := by kernel_rfl
theorem ti128 : (Try.prog.info? 128).map (fun i => (i.size, i.bytes, i.zero)) = some (1, 8, some (.nilFunc)) := by kernel_rfl
theorem ti129 : (Try.prog.info? 129).map (fun i => (i.size, i.bytes, i.zero)) = some (5, 40, some (.agg #[.int .i64 0, .int .i64 0, .int .i64 0, .int .i64 0, .int .i64 0])) := by kernel_rfl
theorem ti130 : (Try.prog.info? 130).map (fun i => (i.size, i.bytes, i.zero)) = some (5, 40, some (.agg #[.int .i64 0, .int .i64 0, .int .i64 0, .int .i64 0, .int .i64 0])) := by kernel_rfl
theorem ti131 : (Try.prog.info? 131).map (fun i => (i.size, i.bytes, i.zero)) = some (1, 8, some (.map none)) := by kernel_rfl
theorem ti132 : (Try.prog.info? 132).map (fun i => (i.size, i.bytes, i.zero)) = some (1, 8, some (.nilFunc)) := by kernel_rfl
theorem ti134 : (Try.prog.info? 134).map (fun i => (i.size, i.bytes, i.zero)) = some (1, 8, some (.nilFunc)) := by kernel_rfl
theorem ti135 : (Try.prog.info? 135).map (fun i => (i.size, i.bytes, i.zero)) = some (1, 8, some (.nilFunc)) := by kernel_rfl
theorem ti136 : (Try.prog.info? 136).map (fun i => (i.size, i.bytes, i.zero)) = some (1, 24, some (.slice none 0 0)) := by kernel_rfl
theorem ti137 : (Try.prog.info? 137).map (fun i => (i.size, i.bytes, i.zero)) = some (1, 24, some (.slice none 0 0)) := by kernel_rfl
theorem ti138 : (Try.prog.info? 138).map (fun i => (i.size, i.bytes, i.zero)) = some (1, 8, some (.nilFunc)) := by kernel_rfl
theorem ti139 : (Try.prog.info? 139).map (fun i => (i.size, i.bytes, i.zero)) = some (1, 8, some (.nilFunc)) := by kernel_rfl
theorem ti140 : (Try.prog.info? 140).map (fun i => (i.size, i.bytes, i.zero)) = some (1, 8, some (.pointer none)) := by kernel_rfl
theorem ti141 : (Try.prog.info? 141).map (fun i => (i.size, i.bytes, i.zero)) = some (1, 8, some (.nilFunc)) := by kernel_rfl
theorem ti142 : (Try.prog.info? 142).map (fun i => (i.size, i.bytes, i.zero)) = some (1, 8, some (.nilFunc)) := by kernel_rfl
theorem ti143 : (Try.prog.info? 143).map (fun i => (i.size, i.bytes, i.zero)) = some (1, 8, some (.nilFunc)) := by kernel_rfl
theorem ti144 : (Try.prog.info? 144).map (fun i => (i.size, i.bytes, i.zero)) = some (1, 8, some (.nilFunc)) := by kernel_rfl
theorem ti145 : (Try.prog.info? 145).map (fun i => (i.size, i.bytes, i.zero)) = some (1, 8, some (.nilFunc)) := by kernel_rfl
theorem ti146 : (Try.prog.info? 146).map (fun i => (i.size, i.bytes, i.zero)) = some (1, 8, some (.nilFunc)) := by kernel_rfl
theorem ti147 : (Try.prog.info? 147).map (fun i => (i.size, i.bytes, i.zero)) = some (1, 8, some (.pointer none)) := by kernel_rfl
theorem ti148 : (Try.prog.info? 148).map (fun i => (i.size, i.bytes, i.zero)) = some (1, 8, some (.int .u64 0)) := by kernel_rfl
theorem ti149 : (Try.prog.info? 149).map (fun i => (i.size, i.bytes, i.zero)) = some (3, 40, some (.agg #[.slice none 0 0, .int .i64 0, .int .u64 0])) := by kernel_rfl
theorem ti150 : (Try.prog.info? 150).map (fun i => (i.size, i.bytes, i.zero)) = some (3, 40, some (.agg #[.slice none 0 0, .int .i64 0, .int .u64 0])) := by kernel_rfl
theorem ti151 : (Try.prog.info? 151).map (fun i => (i.size, i.bytes, i.zero)) = some (1, 8, some (.nilFunc)) := by kernel_rfl
theorem ti152 : (Try.prog.info? 152).map (fun i => (i.size, i.bytes, i.zero)) = some (1, 8, some (.nilFunc)) := by kernel_rfl
theorem ti153 : (Try.prog.info? 153).map (fun i => (i.size, i.bytes, i.zero)) = some (1, 8, some (.nilFunc)) := by kernel_rfl
theorem ti154 : (Try.prog.info? 154).map (fun i => (i.size, i.bytes, i.zero)) = some (1, 8, some (.nilFunc)) := by kernel_rfl
theorem ti155 : (Try.prog.info? 155).map (fun i => (i.size, i.bytes, i.zero)) = some (1, 8, some (.nilFunc)) := by kernel_rfl
theorem ti156 : (Try.prog.info? 156).map (fun i => (i.size, i.bytes, i.zero)) = some (1, 8, some (.nilFunc)) := by kernel_rfl
theorem ti157 : (Try.prog.info? 157).map (fun i => (i.size, i.bytes, i.zero)) = some (1, 8, some (.nilFunc)) := by kernel_rfl
theorem ti159 : (Try.prog.info? 159).map (fun i => (i.size, i.bytes, i.zero)) = some (1, 8, some (.nilFunc)) := by kernel_rfl
theorem ti161 : (Try.prog.info? 161).map (fun i => (i.size, i.bytes, i.zero)) = some (1, 8, some (.nilFunc)) := by kernel_rfl
theorem ti162 : (Try.prog.info? 162).map (fun i => (i.size, i.bytes, i.zero)) = some (1, 8, some (.nilFunc)) := by kernel_rfl
theorem ti163 : (Try.prog.info? 163).map (fun i => (i.size, i.bytes, i.zero)) = some (1, 8, some (.nilFunc)) := by kernel_rfl
theorem ti164 : (Try.prog.info? 164).map (fun i => (i.size, i.bytes, i.zero)) = some (1, 8, some (.nilFunc)) := by kernel_rfl
theorem ti165 : (Try.prog.info? 165).map (fun i => (i.size, i.bytes, i.zero)) = some (1, 8, some (.nilFunc)) := by kernel_rfl
theorem ti166 : (Try.prog.info? 166).map (fun i => (i.size, i.bytes, i.zero)) = some (1, 8, some (.nilFunc)) := by kernel_rfl
theorem ti167 : (Try.prog.info? 167).map (fun i => (i.size, i.bytes, i.zero)) = some (4, 48, some (.agg #[.slice none 0 0, .int .i64 0, .int .i64 0, .int .i64 0])) := by kernel_rfl
theorem ti168 : (Try.prog.info? 168).map (fun i => (i.size, i.bytes, i.zero)) = some (4, 48, some (.agg #[.slice none 0 0, .int .i64 0, .int .i64 0, .int .i64 0])) := by kernel_rfl
theorem ti169 : (Try.prog.info? 169).map (fun i => (i.size, i.bytes, i.zero)) = some (1, 8, some (.pointer none)) := by kernel_rfl
theorem ti170 : (Try.prog.info? 170).map (fun i => (i.size, i.bytes, i.zero)) = some (1, 8, some (.nilFunc)) := by kernel_rfl
theorem ti171 : (Try.prog.info? 171).map (fun i => (i.size, i.bytes, i.zero)) = some (1, 8, some (.nilFunc)) := by kernel_rfl
theorem ti172 : (Try.prog.info? 172).map (fun i => (i.size, i.bytes, i.zero)) = some (1, 8, some (.nilFunc)) := by kernel_rfl
theorem ti173 : (Try.prog.info? 173).map (fun i => (i.size, i.bytes, i.zero)) = some (1, 8, some (.nilFunc)) := by kernel_rfl
theorem ti174 : (Try.prog.info? 174).map (fun i => (i.size, i.bytes, i.zero)) = some (3, 24, some (.agg #[.int .i64 0, .int .i64 0, .int .i64 0])) := by kernel_rfl
theorem ti176 : (Try.prog.info? 176).map (fun i => (i.size, i.bytes, i.zero)) = some (1, 8, some (.nilFunc)) := by kernel_rfl
theorem ti177 : (Try.prog.info? 177).map (fun i => (i.size, i.bytes, i.zero)) = some (1, 8, some (.nilFunc)) := by kernel_rfl
theorem ti179 : (Try.prog.info? 179).map (fun i => (i.size, i.bytes, i.zero)) = some (1, 8, some (.nilFunc)) := by kernel_rfl
theorem ti180 : (Try.prog.info? 180).map (fun i => (i.size, i.bytes, i.zero)) = some (1, 8, some (.nilFunc)) := by kernel_rfl
theorem ti181 : (Try.prog.info? 181).map (fun i => (i.size, i.bytes, i.zero)) = some (1, 8, some (.nilFunc)) := by kernel_rfl
theorem ti182 : (Try.prog.info? 182).map (fun i => (i.size, i.bytes, i.zero)) = some (1, 8, some (.nilFunc)) := by kernel_rfl
theorem ti183 : (Try.prog.info? 183).map (fun i => (i.size, i.bytes, i.zero)) = some (1, 8, some (.nilFunc)) := by kernel_rfl
theorem ti184 : (Try.prog.info? 184).map (fun i => (i.size, i.bytes, i.zero)) = some (1, 8, some (.nilFunc)) := by kernel_rfl
theorem ti185 : (Try.prog.info? 185).map (fun i => (i.size, i.bytes, i.zero)) = some (1, 8, some (.nilFunc)) := by kernel_rfl
theorem ti186 : (Try.prog.info? 186).map (fun i => (i.size, i.bytes, i.zero)) = some (1, 8, some (.nilFunc)) := by kernel_rfl
theorem ti187 : (Try.prog.info? 187).map (fun i => (i.size, i.bytes, i.zero)) = some (1, 8, some (.nilFunc)) := by kernel_rfl
theorem ti188 : (Try.prog.info? 188).map (fun i => (i.size, i.bytes, i.zero)) = some (1, 8, some (.nilFunc)) := by kernel_rfl
theorem ti189 : (Try.prog.info? 189).map (fun i => (i.size, i.bytes, i.zero)) = some (1, 8, some (.nilFunc)) := by kernel_rfl
theorem ti190 : (Try.prog.info? 190).map (fun i => (i.size, i.bytes, i.zero)) = some (1, 8, some (.nilFunc)) := by kernel_rfl
theorem ti191 : (Try.prog.info? 191).map (fun i => (i.size, i.bytes, i.zero)) = some (1, 8, some (.nilFunc)) := by kernel_rfl
theorem ti192 : (Try.prog.info? 192).map (fun i => (i.size, i.bytes, i.zero)) = some (1, 8, some (.nilFunc)) := by kernel_rfl
theorem ti193 : (Try.prog.info? 193).map (fun i => (i.size, i.bytes, i.zero)) = some (1, 8, some (.nilFunc)) := by kernel_rfl
theorem ti194 : (Try.prog.info? 194).map (fun i => (i.size, i.bytes, i.zero)) = some (1, 8, some (.nilFunc)) := by kernel_rfl
theorem ti195 : (Try.prog.info? 195).map (fun i => (i.size, i.bytes, i.zero)) = some (1, 8, some (.nilFunc)) := by kernel_rfl
theorem ti196 : (Try.prog.info? 196).map (fun i => (i.size, i.bytes, i.zero)) = some (1, 8, some (.int .u64 0)) := by kernel_rfl
theorem ti197 : (Try.prog.info? 197).map (fun i => (i.size, i.bytes, i.zero)) = some (1, 8, some (.nilFunc)) := by kernel_rfl
theorem ti198 : (Try.prog.info? 198).map (fun i => (i.size, i.bytes, i.zero)) = some (1, 24, some (.slice none 0 0)) := by kernel_rfl
theorem ti199 : (Try.prog.info? 199).map (fun i => (i.size, i.bytes, i.zero)) = some (1, 8, some (.nilFunc)) := by kernel_rfl
theorem ti200 : (Try.prog.info? 200).map (fun i => (i.size, i.bytes, i.zero)) = some (1, 8, some (.nilFunc)) := by kernel_rfl
theorem ti201 : (Try.prog.info? 201).map (fun i => (i.size, i.bytes, i.zero)) = some (1, 8, some (.nilFunc)) := by kernel_rfl
theorem ti202 : (Try.prog.info? 202).map (fun i => (i.size, i.bytes, i.zero)) = some (1, 24, some (.slice none 0 0)) := by kernel_rfl
theorem ti203 : (Try.prog.info? 203).map (fun i => (i.size, i.bytes, i.zero)) = some (1, 24, some (.slice none 0 0)) := by kernel_rfl
theorem ti204 : (Try.prog.info? 204).map (fun i => (i.size, i.bytes, i.zero)) = some (1, 8, some (.nilFunc)) := by kernel_rfl
theorem ti205 : (Try.prog.info? 205).map (fun i => (i.size, i.bytes, i.zero)) = some (1, 8, some (.nilFunc)) := by kernel_rfl
theorem ti206 : (Try.prog.info? 206).map (fun i => (i.size, i.bytes, i.zero)) = some (2, 16, some (.agg #[.int .i64 0, .int .i64 0])) := by kernel_rfl
theorem ti207 : (Try.prog.info? 207).map (fun i => (i.size, i.bytes, i.zero)) = some (1, 8, some (.map none)) := by kernel_rfl
theorem ti208 : (Try.prog.info? 208).map (fun i => (i.size, i.bytes, i.zero)) = some (5, 40, some (.agg #[.int .i64 0, .int .i64 0, .int .i64 0, .int .i64 0, .map none])) := by kernel_rfl
theorem ti209 : (Try.prog.info? 209).map (fun i => (i.size, i.bytes, i.zero)) = some (5, 40, some (.agg #[.int .i64 0, .int .i64 0, .int .i64 0, .int .i64 0, .map none])) := by kernel_rfl
theorem ti210 : (Try.prog.info? 210).map (fun i => (i.size, i.bytes, i.zero)) = some (1, 8, some (.nilFunc)) := by kernel_rfl
theorem ti211 : (Try.prog.info? 211).map (fun i => (i.size, i.bytes, i.zero)) = some (1, 8, some (.nilFunc)) := by kernel_rfl
theorem ti212 : (Try.prog.info? 212).map (fun i => (i.size, i.bytes, i.zero)) = some (1, 8, some (.nilFunc)) := by kernel_rfl
theorem ti213 : (Try.prog.info? 213).map (fun i => (i.size, i.bytes, i.zero)) = some (1, 8, some (.nilFunc)) := by kernel_rfl
theorem ti214 : (Try.prog.info? 214).map (fun i => (i.size, i.bytes, i.zero)) = some (1, 8, some (.nilFunc)) := by kernel_rfl
theorem ti215 : (Try.prog.info? 215).map (fun i => (i.size, i.bytes, i.zero)) = some (1, 8, some (.nilFunc)) := by kernel_rfl
theorem ti216 : (Try.prog.info? 216).map (fun i => (i.size, i.bytes, i.zero)) = some (1, 8, some (.pointer none)) := by kernel_rfl
theorem ti217 : (Try.prog.info? 217).map (fun i => (i.size, i.bytes, i.zero)) = some (1, 8, some (.nilFunc)) := by kernel_rfl
theorem ti218 : (Try.prog.info? 218).map (fun i => (i.size, i.bytes, i.zero)) = some (1, 8, some (.nilFunc)) := by kernel_rfl
theorem ti219 : (Try.prog.info? 219).map (fun i => (i.size, i.bytes, i.zero)) = some (1, 8, some (.nilFunc)) := by kernel_rfl
theorem ti220 : (Try.prog.info? 220).map (fun i => (i.size, i.bytes, i.zero)) = some (1, 8, some (.nilFunc)) := by kernel_rfl
theorem ti221 : (Try.prog.info? 221).map (fun i => (i.size, i.bytes, i.zero)) = some (1, 8, some (.int .i64 0)) := by kernel_rfl
theorem ti223 : (Try.prog.info? 223).map (fun i => (i.size, i.bytes, i.zero)) = some (1, 8, some (.nilFunc)) := by kernel_rfl
theorem ti224 : (Try.prog.info? 224).map (fun i => (i.size, i.bytes, i.zero)) = some (1, 8, some (.nilFunc)) := by kernel_rfl
theorem ti225 : (Try.prog.info? 225).map (fun i => (i.size, i.bytes, i.zero)) = some (1, 8, some (.nilFunc)) := by kernel_rfl
theorem ti226 : (Try.prog.info? 226).map (fun i => (i.size, i.bytes, i.zero)) = some (1, 8, some (.nilFunc)) := by kernel_rfl
theorem ti227 : (Try.prog.info? 227).map (fun i => (i.size, i.bytes, i.zero)) = some (1, 8, some (.nilFunc)) := by kernel_rfl
theorem ti228 : (Try.prog.info? 228).map (fun i => (i.size, i.bytes, i.zero)) = some (1, 4, some (.int .u32 0)) := by kernel_rfl
theorem ti229 : (Try.prog.info? 229).map (fun i => (i.size, i.bytes, i.zero)) = some (1, 8, some (.nilFunc)) := by kernel_rfl
theorem ti230 : (Try.prog.info? 230).map (fun i => (i.size, i.bytes, i.zero)) = some (1, 8, some (.nilFunc)) := by kernel_rfl
theorem ti231 : (Try.prog.info? 231).map (fun i => (i.size, i.bytes, i.zero)) = some (1, 8, some (.nilFunc)) := by kernel_rfl
theorem ti232 : (Try.prog.info? 232).map (fun i => (i.size, i.bytes, i.zero)) = some (1, 8, some (.int .u64 0)) := by kernel_rfl
theorem ti233 : (Try.prog.info? 233).map (fun i => (i.size, i.bytes, i.zero)) = some (1, 8, some (.nilFunc)) := by kernel_rfl
theorem ti234 : (Try.prog.info? 234).map (fun i => (i.size, i.bytes, i.zero)) = some (1, 8, some (.nilFunc)) := by kernel_rfl
theorem ti235 : (Try.prog.info? 235).map (fun i => (i.size, i.bytes, i.zero)) = some (1, 8, some (.nilFunc)) := by kernel_rfl
theorem ti236 : (Try.prog.info? 236).map (fun i => (i.size, i.bytes, i.zero)) = some (1, 8, some (.pointer none)) := by kernel_rfl
theorem ti237 : (Try.prog.info? 237).map (fun i => (i.size, i.bytes, i.zero)) = some (1, 8, some (.nilFunc)) := by kernel_rfl
theorem ti238 : (Try.prog.info? 238).map (fun i => (i.size, i.bytes, i.zero)) = some (1, 8, some (.pointer none)) := by kernel_rfl
theorem ti239 : (Try.prog.info? 239).map (fun i => (i.size, i.bytes, i.zero)) = some (1, 8, some (.nilFunc)) := by kernel_rfl
theorem ti240 : (Try.prog.info? 240).map (fun i => (i.size, i.bytes, i.zero)) = some (1, 8, some (.nilFunc)) := by kernel_rfl
theorem ti241 : (Try.prog.info? 241).map (fun i => (i.size, i.bytes, i.zero)) = some (4, 40, some (.agg #[.pointer none, .pointer none, .pointer none, .string .empty])) := by kernel_rfl
theorem ti242 : (Try.prog.info? 242).map (fun i => (i.size, i.bytes, i.zero)) = some (4, 40, some (.agg #[.pointer none, .pointer none, .pointer none, .string .empty])) := by kernel_rfl
theorem ti246 : (Try.prog.info? 246).map (fun i => (i.size, i.bytes, i.zero)) = some (1, 1, some (.int .u8 0)) := by kernel_rfl
theorem ti247 : (Try.prog.info? 247).map (fun i => (i.size, i.bytes, i.zero)) = some (1, 1, some (.int .u8 0)) := by kernel_rfl
theorem ti248 : (Try.prog.info? 248).map (fun i => (i.size, i.bytes, i.zero)) = some (1, 8, some (.nilFunc)) := by kernel_rfl
theorem ti249 : (Try.prog.info? 249).map (fun i => (i.size, i.bytes, i.zero)) = some (1, 8, some (.pointer none)) := by kernel_rfl
theorem ti250 : (Try.prog.info? 250).map (fun i => (i.size, i.bytes, i.zero)) = some (1, 4, some (.int .i32 0)) := by kernel_rfl
theorem ti251 : (Try.prog.info? 251).map (fun i => (i.size, i.bytes, i.zero)) = some (1, 4, some (.int .i32 0)) := by kernel_rfl
theorem ti252 : (Try.prog.info? 252).map (fun i => (i.size, i.bytes, i.zero)) = some (11, 48, some (.agg #[.int .u64 0, .int .u64 0, .int .u32 0, .int .u8 0, .int .u8 0, .int .u8 0, .int .u8 0, .nilFunc, .pointer none, .int .i32 0, .int .i32 0])) := by kernel_rfl
theorem ti253 : (Try.prog.info? 253).map (fun i => (i.size, i.bytes, i.zero)) = some (11, 48, some (.agg #[.int .u64 0, .int .u64 0, .int .u32 0, .int .u8 0, .int .u8 0, .int .u8 0, .int .u8 0, .nilFunc, .pointer none, .int .i32 0, .int .i32 0])) := by kernel_rfl

theorem tok_of {t s b : Nat} {d : TypeDesc} {z : List Value} {c : List TypeDesc} (h1 : Try.prog.underlying t = some d) (h2 : (Try.prog.info? t).map (fun i => (i.size, i.bytes, i.zero)) = some (s, b, some (zeroV d z))) (h6 : (zeroV d z).cells = ⟨z⟩) (h3 : z.length = s) (h4 : z.all flat0 = true) (h5 : c ≠ [] → CmpOk Try.prog t c) :
    Try.prog.underlying t = some d ∧ ∃ i, Try.prog.info? t = some i ∧ i.size = s ∧ i.bytes = b ∧ (∃ v, i.zero = some v ∧ v.cells = ⟨z⟩) ∧ z.length = s ∧ z.all flat0 = true ∧ (c ≠ [] → CmpOk Try.prog t c) ∧ i.zero = some (zeroV d z) := by
  refine ⟨h1, ?_⟩
  cases e : Try.prog.info? t with
  | none => rw [e] at h2; cases h2
  | some i =>
    rw [e] at h2
    simp only [Option.map_some, Option.some.injEq, Prod.mk.injEq] at h2
    exact ⟨i, rfl, h2.1, h2.2.1, ⟨_, h2.2.2, h6⟩, h3, h4, h5, h2.2.2⟩

theorem cm22 : CmpOk Try.prog 22 [.int .i64, .int .i64, .int .i64, .int .i64] := cmp_ok (f := 20) (by kernel_rfl) (by kernel_rfl) (by omega) (by kernel_rfl) (by kernel_rfl)
theorem cm23 : CmpOk Try.prog 23 [.int .i64, .int .i64, .int .i64, .int .i64] := cmp_ok (f := 20) (by kernel_rfl) (by kernel_rfl) (by omega) (by kernel_rfl) (by kernel_rfl)
theorem cm24 : CmpOk Try.prog 24 [.int .i64, .int .i64, .int .i64, .int .i64] := cmp_ok (f := 20) (by kernel_rfl) (by kernel_rfl) (by omega) (by kernel_rfl) (by kernel_rfl)
theorem cm28 : CmpOk Try.prog 28 [.int .i64, .int .i64, .int .i64, .int .i64] := cmp_ok (f := 20) (by kernel_rfl) (by kernel_rfl) (by omega) (by kernel_rfl) (by kernel_rfl)
theorem cm56 : CmpOk Try.prog 56 [.int .i64, .int .i64, .int .i64, .int .i64, .int .i64, .int .i64, .int .i64, .int .i64, .int .i64, .int .i64, .int .i64] := cmp_ok (f := 20) (by kernel_rfl) (by kernel_rfl) (by omega) (by kernel_rfl) (by kernel_rfl)
theorem cm57 : CmpOk Try.prog 57 [.int .i64, .int .i64, .int .i64, .int .i64, .int .i64, .int .i64, .int .i64, .int .i64, .int .i64, .int .i64, .int .i64] := cmp_ok (f := 20) (by kernel_rfl) (by kernel_rfl) (by omega) (by kernel_rfl) (by kernel_rfl)
theorem cm60 : CmpOk Try.prog 60 [.int .i64, .int .i64, .int .i64] := cmp_ok (f := 20) (by kernel_rfl) (by kernel_rfl) (by omega) (by kernel_rfl) (by kernel_rfl)
theorem cm61 : CmpOk Try.prog 61 [.int .i64, .int .i64, .int .i64] := cmp_ok (f := 20) (by kernel_rfl) (by kernel_rfl) (by omega) (by kernel_rfl) (by kernel_rfl)
theorem cm91 : CmpOk Try.prog 91 [.int .i64, .int .i64, .int .i64] := cmp_ok (f := 20) (by kernel_rfl) (by kernel_rfl) (by omega) (by kernel_rfl) (by kernel_rfl)
theorem cm92 : CmpOk Try.prog 92 [.int .i64, .int .i64, .int .i64] := cmp_ok (f := 20) (by kernel_rfl) (by kernel_rfl) (by omega) (by kernel_rfl) (by kernel_rfl)
theorem cm118 : CmpOk Try.prog 118 [.int .i64, .int .i64, .int .i64] := cmp_ok (f := 20) (by kernel_rfl) (by kernel_rfl) (by omega) (by kernel_rfl) (by kernel_rfl)
theorem cm119 : CmpOk Try.prog 119 [.int .i64, .int .i64, .int .i64] := cmp_ok (f := 20) (by kernel_rfl) (by kernel_rfl) (by omega) (by kernel_rfl) (by kernel_rfl)
theorem cm121 : CmpOk Try.prog 121 [.int .i64, .int .i64, .int .i64] := cmp_ok (f := 20) (by kernel_rfl) (by kernel_rfl) (by omega) (by kernel_rfl) (by kernel_rfl)
theorem cm129 : CmpOk Try.prog 129 [.int .i64, .int .i64, .int .i64, .int .i64, .int .i64] := cmp_ok (f := 20) (by kernel_rfl) (by kernel_rfl) (by omega) (by kernel_rfl) (by kernel_rfl)
theorem cm130 : CmpOk Try.prog 130 [.int .i64, .int .i64, .int .i64, .int .i64, .int .i64] := cmp_ok (f := 20) (by kernel_rfl) (by kernel_rfl) (by omega) (by kernel_rfl) (by kernel_rfl)
theorem cm174 : CmpOk Try.prog 174 [.int .i64, .int .i64, .int .i64] := cmp_ok (f := 20) (by kernel_rfl) (by kernel_rfl) (by omega) (by kernel_rfl) (by kernel_rfl)
theorem cm206 : CmpOk Try.prog 206 [.int .i64, .int .i64] := cmp_ok (f := 20) (by kernel_rfl) (by kernel_rfl) (by omega) (by kernel_rfl) (by kernel_rfl)
theorem T_ok : TOk Try.prog T := by
  intro t ti h
  unfold T at h
  split at h
  · obtain rfl := Option.some.inj h; exact tok_of Try.underlying1 ti1 rfl rfl rfl (fun h => absurd rfl h)
  · obtain rfl := Option.some.inj h; exact tok_of Try.underlying2 ti2 rfl rfl rfl (fun h => absurd rfl h)
  · obtain rfl := Option.some.inj h; exact tok_of Try.underlying3 ti3 rfl rfl rfl (fun h => absurd rfl h)
  · obtain rfl := Option.some.inj h; exact tok_of Try.underlying4 ti4 rfl rfl rfl (fun h => absurd rfl h)
  · obtain rfl := Option.some.inj h; exact tok_of Try.underlying5 ti5 rfl rfl rfl (fun h => absurd rfl h)
  · obtain rfl := Option.some.inj h; exact tok_of Try.underlying6 ti6 rfl rfl rfl (fun h => absurd rfl h)
  · obtain rfl := Option.some.inj h; exact tok_of Try.underlying7 ti7 rfl rfl rfl (fun h => absurd rfl h)
  · obtain rfl := Option.some.inj h; exact tok_of Try.underlying8 ti8 rfl rfl rfl (fun h => absurd rfl h)
  · obtain rfl := Option.some.inj h; exact tok_of Try.underlying9 ti9 rfl rfl rfl (fun h => absurd rfl h)
  · obtain rfl := Option.some.inj h; exact tok_of Try.underlying10 ti10 rfl rfl rfl (fun h => absurd rfl h)
  · obtain rfl := Option.some.inj h; exact tok_of Try.underlying11 ti11 rfl rfl rfl (fun h => absurd rfl h)
  · obtain rfl := Option.some.inj h; exact tok_of Try.underlying12 ti12 rfl rfl rfl (fun h => absurd rfl h)
  · obtain rfl := Option.some.inj h; exact tok_of Try.underlying13 ti13 rfl rfl rfl (fun h => absurd rfl h)
  · obtain rfl := Option.some.inj h; exact tok_of Try.underlying14 ti14 rfl rfl rfl (fun h => absurd rfl h)
  · obtain rfl := Option.some.inj h; exact tok_of Try.underlying15 ti15 rfl rfl rfl (fun h => absurd rfl h)
  · obtain rfl := Option.some.inj h; exact tok_of Try.underlying16 ti16 rfl rfl rfl (fun h => absurd rfl h)
  · obtain rfl := Option.some.inj h; exact tok_of Try.underlying17 ti17 rfl rfl rfl (fun h => absurd rfl h)
  · obtain rfl := Option.some.inj h; exact tok_of Try.underlying18 ti18 rfl rfl rfl (fun h => absurd rfl h)
  · obtain rfl := Option.some.inj h; exact tok_of Try.underlying19 ti19 rfl rfl rfl (fun h => absurd rfl h)
  · obtain rfl := Option.some.inj h; exact tok_of Try.underlying21 ti21 rfl rfl rfl (fun h => absurd rfl h)
  · obtain rfl := Option.some.inj h; exact tok_of Try.underlying22 ti22 rfl rfl rfl (fun _ => cm22)
  · obtain rfl := Option.some.inj h; exact tok_of Try.underlying23 ti23 rfl rfl rfl (fun _ => cm23)
  · obtain rfl := Option.some.inj h; exact tok_of Try.underlying24 ti24 rfl rfl rfl (fun _ => cm24)
  · obtain rfl := Option.some.inj h; exact tok_of Try.underlying25 ti25 rfl rfl rfl (fun h => absurd rfl h)
  · obtain rfl := Option.some.inj h; exact tok_of Try.underlying27 ti27 rfl rfl rfl (fun h => absurd rfl h)
  · obtain rfl := Option.some.inj h; exact tok_of Try.underlying28 ti28 rfl rfl rfl (fun _ => cm28)
  · obtain rfl := Option.some.inj h; exact tok_of Try.underlying29 ti29 rfl rfl rfl (fun h => absurd rfl h)
  · obtain rfl := Option.some.inj h; exact tok_of Try.underlying30 ti30 rfl rfl rfl (fun h => absurd rfl h)
  · obtain rfl := Option.some.inj h; exact tok_of Try.underlying31 ti31 rfl rfl rfl (fun h => absurd rfl h)
  · obtain rfl := Option.some.inj h; exact tok_of Try.underlying32 ti32 rfl rfl rfl (fun h => absurd rfl h)
  · obtain rfl := Option.some.inj h; exact tok_of Try.underlying33 ti33 rfl rfl rfl (fun h => absurd rfl h)
  · obtain rfl := Option.some.inj h; exact tok_of Try.underlying34 ti34 rfl rfl rfl (fun h => absurd rfl h)
  · obtain rfl := Option.some.inj h; exact tok_of Try.underlying35 ti35 rfl rfl rfl (fun h => absurd rfl h)
  · obtain rfl := Option.some.inj h; exact tok_of Try.underlying36 ti36 rfl rfl rfl (fun h => absurd rfl h)
  · obtain rfl := Option.some.inj h; exact tok_of Try.underlying37 ti37 rfl rfl rfl (fun h => absurd rfl h)
  · obtain rfl := Option.some.inj h; exact tok_of Try.underlying39 ti39 rfl rfl rfl (fun h => absurd rfl h)
  · obtain rfl := Option.some.inj h; exact tok_of Try.underlying40 ti40 rfl rfl rfl (fun h => absurd rfl h)
  · obtain rfl := Option.some.inj h; exact tok_of Try.underlying41 ti41 rfl rfl rfl (fun h => absurd rfl h)
  · obtain rfl := Option.some.inj h; exact tok_of Try.underlying42 ti42 rfl rfl rfl (fun h => absurd rfl h)
  · obtain rfl := Option.some.inj h; exact tok_of Try.underlying43 ti43 rfl rfl rfl (fun h => absurd rfl h)
  · obtain rfl := Option.some.inj h; exact tok_of Try.underlying44 ti44 rfl rfl rfl (fun h => absurd rfl h)
  · obtain rfl := Option.some.inj h; exact tok_of Try.underlying45 ti45 rfl rfl rfl (fun h => absurd rfl h)
  · obtain rfl := Option.some.inj h; exact tok_of Try.underlying47 ti47 rfl rfl rfl (fun h => absurd rfl h)
  · obtain rfl := Option.some.inj h; exact tok_of Try.underlying48 ti48 rfl rfl rfl (fun h => absurd rfl h)
  · obtain rfl := Option.some.inj h; exact tok_of Try.underlying49 ti49 rfl rfl rfl (fun h => absurd rfl h)
  · obtain rfl := Option.some.inj h; exact tok_of Try.underlying50 ti50 rfl rfl rfl (fun h => absurd rfl h)
  · obtain rfl := Option.some.inj h; exact tok_of Try.underlying51 ti51 rfl rfl rfl (fun h => absurd rfl h)
  · obtain rfl := Option.some.inj h; exact tok_of Try.underlying52 ti52 rfl rfl rfl (fun h => absurd rfl h)
  · obtain rfl := Option.some.inj h; exact tok_of Try.underlying53 ti53 rfl rfl rfl (fun h => absurd rfl h)
  · obtain rfl := Option.some.inj h; exact tok_of Try.underlying54 ti54 rfl rfl rfl (fun h => absurd rfl h)
  · obtain rfl := Option.some.inj h; exact tok_of Try.underlying55 ti55 rfl rfl rfl (fun h => absurd rfl h)
  · obtain rfl := Option.some.inj h; exact tok_of Try.underlying56 ti56 rfl rfl rfl (fun _ => cm56)
  · obtain rfl := Option.some.inj h; exact tok_of Try.underlying57 ti57 rfl rfl rfl (fun _ => cm57)
  · obtain rfl := Option.some.inj h; exact tok_of Try.underlying59 ti59 rfl rfl rfl (fun h => absurd rfl h)
  · obtain rfl := Option.some.inj h; exact tok_of Try.underlying60 ti60 rfl rfl rfl (fun _ => cm60)
  · obtain rfl := Option.some.inj h; exact tok_of Try.underlying61 ti61 rfl rfl rfl (fun _ => cm61)
  · obtain rfl := Option.some.inj h; exact tok_of Try.underlying63 ti63 rfl rfl rfl (fun h => absurd rfl h)
  · obtain rfl := Option.some.inj h; exact tok_of Try.underlying64 ti64 rfl rfl rfl (fun h => absurd rfl h)
  · obtain rfl := Option.some.inj h; exact tok_of Try.underlying65 ti65 rfl rfl rfl (fun h => absurd rfl h)
  · obtain rfl := Option.some.inj h; exact tok_of Try.underlying66 ti66 rfl rfl rfl (fun h => absurd rfl h)
  · obtain rfl := Option.some.inj h; exact tok_of Try.underlying68 ti68 rfl rfl rfl (fun h => absurd rfl h)
  · obtain rfl := Option.some.inj h; exact tok_of Try.underlying70 ti70 rfl rfl rfl (fun h => absurd rfl h)
  · obtain rfl := Option.some.inj h; exact tok_of Try.underlying71 ti71 rfl rfl rfl (fun h => absurd rfl h)
  · obtain rfl := Option.some.inj h; exact tok_of Try.underlying72 ti72 rfl rfl rfl (fun h => absurd rfl h)
  · obtain rfl := Option.some.inj h; exact tok_of Try.underlying73 ti73 rfl rfl rfl (fun h => absurd rfl h)
  · obtain rfl := Option.some.inj h; exact tok_of Try.underlying74 ti74 rfl rfl rfl (fun h => absurd rfl h)
  · obtain rfl := Option.some.inj h; exact tok_of Try.underlying76 ti76 rfl rfl rfl (fun h => absurd rfl h)
  · obtain rfl := Option.some.inj h; exact tok_of Try.underlying78 ti78 rfl rfl rfl (fun h => absurd rfl h)
  · obtain rfl := Option.some.inj h; exact tok_of Try.underlying80 ti80 rfl rfl rfl (fun h => absurd rfl h)
  · obtain rfl := Option.some.inj h; exact tok_of Try.underlying81 ti81 rfl rfl rfl (fun h => absurd rfl h)
  · obtain rfl := Option.some.inj h; exact tok_of Try.underlying83 ti83 rfl rfl rfl (fun h => absurd rfl h)
  · obtain rfl := Option.some.inj h; exact tok_of Try.underlying85 ti85 rfl rfl rfl (fun h => absurd rfl h)
  · obtain rfl := Option.some.inj h; exact tok_of Try.underlying86 ti86 rfl rfl rfl (fun h => absurd rfl h)
  · obtain rfl := Option.some.inj h; exact tok_of Try.underlying87 ti87 rfl rfl rfl (fun h => absurd rfl h)
  · obtain rfl := Option.some.inj h; exact tok_of Try.underlying88 ti88 rfl rfl rfl (fun h => absurd rfl h)
  · obtain rfl := Option.some.inj h; exact tok_of Try.underlying89 ti89 rfl rfl rfl (fun h => absurd rfl h)
  · obtain rfl := Option.some.inj h; exact tok_of Try.underlying90 ti90 rfl rfl rfl (fun h => absurd rfl h)
  · obtain rfl := Option.some.inj h; exact tok_of Try.underlying91 ti91 rfl rfl rfl (fun _ => cm91)
  · obtain rfl := Option.some.inj h; exact tok_of Try.underlying92 ti92 rfl rfl rfl (fun _ => cm92)
  · obtain rfl := Option.some.inj h; exact tok_of Try.underlying94 ti94 rfl rfl rfl (fun h => absurd rfl h)
  · obtain rfl := Option.some.inj h; exact tok_of Try.underlying95 ti95 rfl rfl rfl (fun h => absurd rfl h)
  · obtain rfl := Option.some.inj h; exact tok_of Try.underlying97 ti97 rfl rfl rfl (fun h => absurd rfl h)
  · obtain rfl := Option.some.inj h; exact tok_of Try.underlying98 ti98 rfl rfl rfl (fun h => absurd rfl h)
  · obtain rfl := Option.some.inj h; exact tok_of Try.underlying99 ti99 rfl rfl rfl (fun h => absurd rfl h)
  · obtain rfl := Option.some.inj h; exact tok_of Try.underlying101 ti101 rfl rfl rfl (fun h => absurd rfl h)
  · obtain rfl := Option.some.inj h; exact tok_of Try.underlying102 ti102 rfl rfl rfl (fun h => absurd rfl h)
  · obtain rfl := Option.some.inj h; exact tok_of Try.underlying103 ti103 rfl rfl rfl (fun h => absurd rfl h)
  · obtain rfl := Option.some.inj h; exact tok_of Try.underlying105 ti105 rfl rfl rfl (fun h => absurd rfl h)
  · obtain rfl := Option.some.inj h; exact tok_of Try.underlying106 ti106 rfl rfl rfl (fun h => absurd rfl h)
  · obtain rfl := Option.some.inj h; exact tok_of Try.underlying107 ti107 rfl rfl rfl (fun h => absurd rfl h)
  · obtain rfl := Option.some.inj h; exact tok_of Try.underlying108 ti108 rfl rfl rfl (fun h => absurd rfl h)
  · obtain rfl := Option.some.inj h; exact tok_of Try.underlying110 ti110 rfl rfl rfl (fun h => absurd rfl h)
  · obtain rfl := Option.some.inj h; exact tok_of Try.underlying112 ti112 rfl rfl rfl (fun h => absurd rfl h)
  · obtain rfl := Option.some.inj h; exact tok_of Try.underlying113 ti113 rfl rfl rfl (fun h => absurd rfl h)
  · obtain rfl := Option.some.inj h; exact tok_of Try.underlying114 ti114 rfl rfl rfl (fun h => absurd rfl h)
  · obtain rfl := Option.some.inj h; exact tok_of Try.underlying115 ti115 rfl rfl rfl (fun h => absurd rfl h)
  · obtain rfl := Option.some.inj h; exact tok_of Try.underlying116 ti116 rfl rfl rfl (fun h => absurd rfl h)
  · obtain rfl := Option.some.inj h; exact tok_of Try.underlying117 ti117 rfl rfl rfl (fun h => absurd rfl h)
  · obtain rfl := Option.some.inj h; exact tok_of Try.underlying118 ti118 rfl rfl rfl (fun _ => cm118)
  · obtain rfl := Option.some.inj h; exact tok_of Try.underlying119 ti119 rfl rfl rfl (fun _ => cm119)
  · obtain rfl := Option.some.inj h; exact tok_of Try.underlying120 ti120 rfl rfl rfl (fun h => absurd rfl h)
  · obtain rfl := Option.some.inj h; exact tok_of Try.underlying121 ti121 rfl rfl rfl (fun _ => cm121)
  · obtain rfl := Option.some.inj h; exact tok_of Try.underlying122 ti122 rfl rfl rfl (fun h => absurd rfl h)
  · obtain rfl := Option.some.inj h; exact tok_of Try.underlying123 ti123 rfl rfl rfl (fun h => absurd rfl h)
  · obtain rfl := Option.some.inj h; exact tok_of Try.underlying124 ti124 rfl rfl rfl (fun h => absurd rfl h)
  · obtain rfl := Option.some.inj h; exact tok_of Try.underlying125 ti125 rfl rfl rfl (fun h => absurd rfl h)
  · obtain rfl := Option.some.inj h; exact tok_of Try.underlying126 ti126 rfl rfl rfl (fun h => absurd rfl h)
  · obtain rfl := Option.some.inj h; exact tok_of Try.underlying127 ti127 rfl rfl rfl (fun h => absurd rfl h)
  · obtain rfl := Option.some.inj h; exact tok_of Try.underlying128 ti128 rfl rfl rfl (fun h => absurd rfl h)
  · obtain rfl := Option.some.inj h; exact tok_of Try.underlying129 ti129 rfl rfl rfl (fun _ => cm129)
  · obtain rfl := Option.some.inj h; exact tok_of Try.underlying130 ti130 rfl rfl rfl (fun _ => cm130)
  · obtain rfl := Option.some.inj h; exact tok_of Try.underlying131 ti131 rfl rfl rfl (fun h => absurd rfl h)
  · obtain rfl := Option.some.inj h; exact tok_of Try.underlying132 ti132 rfl rfl rfl (fun h => absurd rfl h)
  · obtain rfl := Option.some.inj h; exact tok_of Try.underlying134 ti134 rfl rfl rfl (fun h => absurd rfl h)
  · obtain rfl := Option.some.inj h; exact tok_of Try.underlying135 ti135 rfl rfl rfl (fun h => absurd rfl h)
  · obtain rfl := Option.some.inj h; exact tok_of Try.underlying136 ti136 rfl rfl rfl (fun h => absurd rfl h)
  · obtain rfl := Option.some.inj h; exact tok_of Try.underlying137 ti137 rfl rfl rfl (fun h => absurd rfl h)
  · obtain rfl := Option.some.inj h; exact tok_of Try.underlying138 ti138 rfl rfl rfl (fun h => absurd rfl h)
  · obtain rfl := Option.some.inj h; exact tok_of Try.underlying139 ti139 rfl rfl rfl (fun h => absurd rfl h)
  · obtain rfl := Option.some.inj h; exact tok_of Try.underlying140 ti140 rfl rfl rfl (fun h => absurd rfl h)
  · obtain rfl := Option.some.inj h; exact tok_of Try.underlying141 ti141 rfl rfl rfl (fun h => absurd rfl h)
  · obtain rfl := Option.some.inj h; exact tok_of Try.underlying142 ti142 rfl rfl rfl (fun h => absurd rfl h)
  · obtain rfl := Option.some.inj h; exact tok_of Try.underlying143 ti143 rfl rfl rfl (fun h => absurd rfl h)
  · obtain rfl := Option.some.inj h; exact tok_of Try.underlying144 ti144 rfl rfl rfl (fun h => absurd rfl h)
  · obtain rfl := Option.some.inj h; exact tok_of Try.underlying145 ti145 rfl rfl rfl (fun h => absurd rfl h)
  · obtain rfl := Option.some.inj h; exact tok_of Try.underlying146 ti146 rfl rfl rfl (fun h => absurd rfl h)
  · obtain rfl := Option.some.inj h; exact tok_of Try.underlying147 ti147 rfl rfl rfl (fun h => absurd rfl h)
  · obtain rfl := Option.some.inj h; exact tok_of Try.underlying148 ti148 rfl rfl rfl (fun h => absurd rfl h)
  · obtain rfl := Option.some.inj h; exact tok_of Try.underlying149 ti149 rfl rfl rfl (fun h => absurd rfl h)
  · obtain rfl := Option.some.inj h; exact tok_of Try.underlying150 ti150 rfl rfl rfl (fun h => absurd rfl h)
  · obtain rfl := Option.some.inj h; exact tok_of Try.underlying151 ti151 rfl rfl rfl (fun h => absurd rfl h)
  · obtain rfl := Option.some.inj h; exact tok_of Try.underlying152 ti152 rfl rfl rfl (fun h => absurd rfl h)
  · obtain rfl := Option.some.inj h; exact tok_of Try.underlying153 ti153 rfl rfl rfl (fun h => absurd rfl h)
  · obtain rfl := Option.some.inj h; exact tok_of Try.underlying154 ti154 rfl rfl rfl (fun h => absurd rfl h)
  · obtain rfl := Option.some.inj h; exact tok_of Try.underlying155 ti155 rfl rfl rfl (fun h => absurd rfl h)
  · obtain rfl := Option.some.inj h; exact tok_of Try.underlying156 ti156 rfl rfl rfl (fun h => absurd rfl h)
  · obtain rfl := Option.some.inj h; exact tok_of Try.underlying157 ti157 rfl rfl rfl (fun h => absurd rfl h)
  · obtain rfl := Option.some.inj h; exact tok_of Try.underlying159 ti159 rfl rfl rfl (fun h => absurd rfl h)
  · obtain rfl := Option.some.inj h; exact tok_of Try.underlying161 ti161 rfl rfl rfl (fun h => absurd rfl h)
  · obtain rfl := Option.some.inj h; exact tok_of Try.underlying162 ti162 rfl rfl rfl (fun h => absurd rfl h)
  · obtain rfl := Option.some.inj h; exact tok_of Try.underlying163 ti163 rfl rfl rfl (fun h => absurd rfl h)
  · obtain rfl := Option.some.inj h; exact tok_of Try.underlying164 ti164 rfl rfl rfl (fun h => absurd rfl h)
  · obtain rfl := Option.some.inj h; exact tok_of Try.underlying165 ti165 rfl rfl rfl (fun h => absurd rfl h)
  · obtain rfl := Option.some.inj h; exact tok_of Try.underlying166 ti166 rfl rfl rfl (fun h => absurd rfl h)
  · obtain rfl := Option.some.inj h; exact tok_of Try.underlying167 ti167 rfl rfl rfl (fun h => absurd rfl h)
  · obtain rfl := Option.some.inj h; exact tok_of Try.underlying168 ti168 rfl rfl rfl (fun h => absurd rfl h)
  · obtain rfl := Option.some.inj h; exact tok_of Try.underlying169 ti169 rfl rfl rfl (fun h => absurd rfl h)
  · obtain rfl := Option.some.inj h; exact tok_of Try.underlying170 ti170 rfl rfl rfl (fun h => absurd rfl h)
  · obtain rfl := Option.some.inj h; exact tok_of Try.underlying171 ti171 rfl rfl rfl (fun h => absurd rfl h)
  · obtain rfl := Option.some.inj h; exact tok_of Try.underlying172 ti172 rfl rfl rfl (fun h => absurd rfl h)
  · obtain rfl := Option.some.inj h; exact tok_of Try.underlying173 ti173 rfl rfl rfl (fun h => absurd rfl h)
  · obtain rfl := Option.some.inj h; exact tok_of Try.underlying174 ti174 rfl rfl rfl (fun _ => cm174)
  · obtain rfl := Option.some.inj h; exact tok_of Try.underlying176 ti176 rfl rfl rfl (fun h => absurd rfl h)
  · obtain rfl := Option.some.inj h; exact tok_of Try.underlying177 ti177 rfl rfl rfl (fun h => absurd rfl h)
  · obtain rfl := Option.some.inj h; exact tok_of Try.underlying179 ti179 rfl rfl rfl (fun h => absurd rfl h)
  · obtain rfl := Option.some.inj h; exact tok_of Try.underlying180 ti180 rfl rfl rfl (fun h => absurd rfl h)
  · obtain rfl := Option.some.inj h; exact tok_of Try.underlying181 ti181 rfl rfl rfl (fun h => absurd rfl h)
  · obtain rfl := Option.some.inj h; exact tok_of Try.underlying182 ti182 rfl rfl rfl (fun h => absurd rfl h)
  · obtain rfl := Option.some.inj h; exact tok_of Try.underlying183 ti183 rfl rfl rfl (fun h => absurd rfl h)
  · obtain rfl := Option.some.inj h; exact tok_of Try.underlying184 ti184 rfl rfl rfl (fun h => absurd rfl h)
  · obtain rfl := Option.some.inj h; exact tok_of Try.underlying185 ti185 rfl rfl rfl (fun h => absurd rfl h)
  · obtain rfl := Option.some.inj h; exact tok_of Try.underlying186 ti186 rfl rfl rfl (fun h => absurd rfl h)
  · obtain rfl := Option.some.inj h; exact tok_of Try.underlying187 ti187 rfl rfl rfl (fun h => absurd rfl h)
  · obtain rfl := Option.some.inj h; exact tok_of Try.underlying188 ti188 rfl rfl rfl (fun h => absurd rfl h)
  · obtain rfl := Option.some.inj h; exact tok_of Try.underlying189 ti189 rfl rfl rfl (fun h => absurd rfl h)
  · obtain rfl := Option.some.inj h; exact tok_of Try.underlying190 ti190 rfl rfl rfl (fun h => absurd rfl h)
  · obtain rfl := Option.some.inj h; exact tok_of Try.underlying191 ti191 rfl rfl rfl (fun h => absurd rfl h)
  · obtain rfl := Option.some.inj h; exact tok_of Try.underlying192 ti192 rfl rfl rfl (fun h => absurd rfl h)
  · obtain rfl := Option.some.inj h; exact tok_of Try.underlying193 ti193 rfl rfl rfl (fun h => absurd rfl h)
  · obtain rfl := Option.some.inj h; exact tok_of Try.underlying194 ti194 rfl rfl rfl (fun h => absurd rfl h)
  · obtain rfl := Option.some.inj h; exact tok_of Try.underlying195 ti195 rfl rfl rfl (fun h => absurd rfl h)
  · obtain rfl := Option.some.inj h; exact tok_of Try.underlying196 ti196 rfl rfl rfl (fun h => absurd rfl h)
  · obtain rfl := Option.some.inj h; exact tok_of Try.underlying197 ti197 rfl rfl rfl (fun h => absurd rfl h)
  · obtain rfl := Option.some.inj h; exact tok_of Try.underlying198 ti198 rfl rfl rfl (fun h => absurd rfl h)
  · obtain rfl := Option.some.inj h; exact tok_of Try.underlying199 ti199 rfl rfl rfl (fun h => absurd rfl h)
  · obtain rfl := Option.some.inj h; exact tok_of Try.underlying200 ti200 rfl rfl rfl (fun h => absurd rfl h)
  · obtain rfl := Option.some.inj h; exact tok_of Try.underlying201 ti201 rfl rfl rfl (fun h => absurd rfl h)
  · obtain rfl := Option.some.inj h; exact tok_of Try.underlying202 ti202 rfl rfl rfl (fun h => absurd rfl h)
  · obtain rfl := Option.some.inj h; exact tok_of Try.underlying203 ti203 rfl rfl rfl (fun h => absurd rfl h)
  · obtain rfl := Option.some.inj h; exact tok_of Try.underlying204 ti204 rfl rfl rfl (fun h => absurd rfl h)
  · obtain rfl := Option.some.inj h; exact tok_of Try.underlying205 ti205 rfl rfl rfl (fun h => absurd rfl h)
  · obtain rfl := Option.some.inj h; exact tok_of Try.underlying206 ti206 rfl rfl rfl (fun _ => cm206)
  · obtain rfl := Option.some.inj h; exact tok_of Try.underlying207 ti207 rfl rfl rfl (fun h => absurd rfl h)
  · obtain rfl := Option.some.inj h; exact tok_of Try.underlying208 ti208 rfl rfl rfl (fun h => absurd rfl h)
  · obtain rfl := Option.some.inj h; exact tok_of Try.underlying209 ti209 rfl rfl rfl (fun h => absurd rfl h)
  · obtain rfl := Option.some.inj h; exact tok_of Try.underlying210 ti210 rfl rfl rfl (fun h => absurd rfl h)
  · obtain rfl := Option.some.inj h; exact tok_of Try.underlying211 ti211 rfl rfl rfl (fun h => absurd rfl h)
  · obtain rfl := Option.some.inj h; exact tok_of Try.underlying212 ti212 rfl rfl rfl (fun h => absurd rfl h)
  · obtain rfl := Option.some.inj h; exact tok_of Try.underlying213 ti213 rfl rfl rfl (fun h => absurd rfl h)
  · obtain rfl := Option.some.inj h; exact tok_of Try.underlying214 ti214 rfl rfl rfl (fun h => absurd rfl h)
  · obtain rfl := Option.some.inj h; exact tok_of Try.underlying215 ti215 rfl rfl rfl (fun h => absurd rfl h)
  · obtain rfl := Option.some.inj h; exact tok_of Try.underlying216 ti216 rfl rfl rfl (fun h => absurd rfl h)
  · obtain rfl := Option.some.inj h; exact tok_of Try.underlying217 ti217 rfl rfl rfl (fun h => absurd rfl h)
  · obtain rfl := Option.some.inj h; exact tok_of Try.underlying218 ti218 rfl rfl rfl (fun h => absurd rfl h)
  · obtain rfl := Option.some.inj h; exact tok_of Try.underlying219 ti219 rfl rfl rfl (fun h => absurd rfl h)
  · obtain rfl := Option.some.inj h; exact tok_of Try.underlying220 ti220 rfl rfl rfl (fun h => absurd rfl h)
  · obtain rfl := Option.some.inj h; exact tok_of Try.underlying221 ti221 rfl rfl rfl (fun h => absurd rfl h)
  · obtain rfl := Option.some.inj h; exact tok_of Try.underlying223 ti223 rfl rfl rfl (fun h => absurd rfl h)
  · obtain rfl := Option.some.inj h; exact tok_of Try.underlying224 ti224 rfl rfl rfl (fun h => absurd rfl h)
  · obtain rfl := Option.some.inj h; exact tok_of Try.underlying225 ti225 rfl rfl rfl (fun h => absurd rfl h)
  · obtain rfl := Option.some.inj h; exact tok_of Try.underlying226 ti226 rfl rfl rfl (fun h => absurd rfl h)
  · obtain rfl := Option.some.inj h; exact tok_of Try.underlying227 ti227 rfl rfl rfl (fun h => absurd rfl h)
  · obtain rfl := Option.some.inj h; exact tok_of Try.underlying228 ti228 rfl rfl rfl (fun h => absurd rfl h)
  · obtain rfl := Option.some.inj h; exact tok_of Try.underlying229 ti229 rfl rfl rfl (fun h => absurd rfl h)
  · obtain rfl := Option.some.inj h; exact tok_of Try.underlying230 ti230 rfl rfl rfl (fun h => absurd rfl h)
  · obtain rfl := Option.some.inj h; exact tok_of Try.underlying231 ti231 rfl rfl rfl (fun h => absurd rfl h)
  · obtain rfl := Option.some.inj h; exact tok_of Try.underlying232 ti232 rfl rfl rfl (fun h => absurd rfl h)
  · obtain rfl := Option.some.inj h; exact tok_of Try.underlying233 ti233 rfl rfl rfl (fun h => absurd rfl h)
  · obtain rfl := Option.some.inj h; exact tok_of Try.underlying234 ti234 rfl rfl rfl (fun h => absurd rfl h)
  · obtain rfl := Option.some.inj h; exact tok_of Try.underlying235 ti235 rfl rfl rfl (fun h => absurd rfl h)
  · obtain rfl := Option.some.inj h; exact tok_of Try.underlying236 ti236 rfl rfl rfl (fun h => absurd rfl h)
  · obtain rfl := Option.some.inj h; exact tok_of Try.underlying237 ti237 rfl rfl rfl (fun h => absurd rfl h)
  · obtain rfl := Option.some.inj h; exact tok_of Try.underlying238 ti238 rfl rfl rfl (fun h => absurd rfl h)
  · obtain rfl := Option.some.inj h; exact tok_of Try.underlying239 ti239 rfl rfl rfl (fun h => absurd rfl h)
  · obtain rfl := Option.some.inj h; exact tok_of Try.underlying240 ti240 rfl rfl rfl (fun h => absurd rfl h)
  · obtain rfl := Option.some.inj h; exact tok_of Try.underlying241 ti241 rfl rfl rfl (fun h => absurd rfl h)
  · obtain rfl := Option.some.inj h; exact tok_of Try.underlying242 ti242 rfl rfl rfl (fun h => absurd rfl h)
  · obtain rfl := Option.some.inj h; exact tok_of Try.underlying246 ti246 rfl rfl rfl (fun h => absurd rfl h)
  · obtain rfl := Option.some.inj h; exact tok_of Try.underlying247 ti247 rfl rfl rfl (fun h => absurd rfl h)
  · obtain rfl := Option.some.inj h; exact tok_of Try.underlying248 ti248 rfl rfl rfl (fun h => absurd rfl h)
  · obtain rfl := Option.some.inj h; exact tok_of Try.underlying249 ti249 rfl rfl rfl (fun h => absurd rfl h)
  · obtain rfl := Option.some.inj h; exact tok_of Try.underlying250 ti250 rfl rfl rfl (fun h => absurd rfl h)
  · obtain rfl := Option.some.inj h; exact tok_of Try.underlying251 ti251 rfl rfl rfl (fun h => absurd rfl h)
  · obtain rfl := Option.some.inj h; exact tok_of Try.underlying252 ti252 rfl rfl rfl (fun h => absurd rfl h)
  · obtain rfl := Option.some.inj h; exact tok_of Try.underlying253 ti253 rfl rfl rfl (fun h => absurd rfl h)
  · cases h

theorem mixed : Try.prog.follows .mixedOrders = true := by kernel_rfl
noncomputable abbrev env (N : Nat) (l : List (Ent Try.prog)) (live : List (Nat × List Nat) := []) (ord : List (Nat × DMode) := []) : Env := mkEnv Try.prog T N l live ord
theorem env_ok {N : Nat} {l : List (Ent Try.prog)} {live : List (Nat × List Nat)} {ord : List (Nat × DMode)} : EnvOk Try.prog (env N l live ord) := mkEnv_ok T_ok mixed
theorem Try.own : ownKnob Try.prog.godebug = none := by kernel_rfl
theorem Try.laidOut : laidOutB Try.prog = true := by kernel_rfl
end Go.Proofs.Ytnnfbgonjonflaa
