/- The table of the types of this program, and that it is right; no condition. -/
import Derived.Test.YthcgbbhgjeceeaaEng16
import Derived.Test.YthcgbbhgjeceeaaProg
namespace Go.Proofs.Ythcgbbhgjeceeaa
open Go Go.Eng
def y2 : TI := ⟨.int .i64, 1, 8, [.int .i64 0], []⟩
@[simp] theorem y2_s : y2.size = 1 := rfl
@[simp] theorem y2_b : y2.bytes = 8 := rfl
def y3 : TI := ⟨.int .i64, 1, 8, [.int .i64 0], []⟩
@[simp] theorem y3_s : y3.size = 1 := rfl
@[simp] theorem y3_b : y3.bytes = 8 := rfl
def y4 : TI := ⟨.bool, 1, 1, [.bool false], []⟩
@[simp] theorem y4_s : y4.size = 1 := rfl
@[simp] theorem y4_b : y4.bytes = 1 := rfl
def y5 : TI := ⟨.int .u8, 1, 1, [.int .u8 0], []⟩
@[simp] theorem y5_s : y5.size = 1 := rfl
@[simp] theorem y5_b : y5.bytes = 1 := rfl
def y6 : TI := ⟨.int .u8, 1, 1, [.int .u8 0], []⟩
@[simp] theorem y6_s : y6.size = 1 := rfl
@[simp] theorem y6_b : y6.bytes = 1 := rfl
def y7 : TI := ⟨.struct #[⟨ "x", 2, 0, false, "", "runtime", 0⟩, ⟨ "y", 3, 1, false, "", "runtime", 8⟩, ⟨ "signed", 4, 2, false, "", "runtime", 16⟩, ⟨ "code", 6, 3, false, "", "runtime", 17⟩], 4, 24, [.int .i64 0, .int .i64 0, .bool false, .int .u8 0], []⟩
@[simp] theorem y7_s : y7.size = 4 := rfl
@[simp] theorem y7_b : y7.bytes = 24 := rfl
def y8 : TI := ⟨.struct #[⟨ "x", 2, 0, false, "", "runtime", 0⟩, ⟨ "y", 3, 1, false, "", "runtime", 8⟩, ⟨ "signed", 4, 2, false, "", "runtime", 16⟩, ⟨ "code", 6, 3, false, "", "runtime", 17⟩], 4, 24, [.int .i64 0, .int .i64 0, .bool false, .int .u8 0], []⟩
@[simp] theorem y8_s : y8.size = 4 := rfl
@[simp] theorem y8_b : y8.bytes = 24 := rfl
def y9 : TI := ⟨.string, 1, 16, [.string .empty], []⟩
@[simp] theorem y9_s : y9.size = 1 := rfl
@[simp] theorem y9_b : y9.bytes = 16 := rfl
def y10 : TI := ⟨.string, 1, 16, [.string .empty], []⟩
@[simp] theorem y10_s : y10.size = 1 := rfl
@[simp] theorem y10_b : y10.bytes = 16 := rfl
def y11 : TI := ⟨.string, 1, 16, [.string .empty], []⟩
@[simp] theorem y11_s : y11.size = 1 := rfl
@[simp] theorem y11_b : y11.bytes = 16 := rfl
def y12 : TI := ⟨.int .u64, 1, 8, [.int .u64 0], []⟩
@[simp] theorem y12_s : y12.size = 1 := rfl
@[simp] theorem y12_b : y12.bytes = 8 := rfl
def y13 : TI := ⟨.struct #[⟨ "msg", 9, 0, false, "", "runtime", 0⟩, ⟨ "addr", 12, 1, false, "", "runtime", 16⟩], 2, 24, [.string .empty, .int .u64 0], []⟩
@[simp] theorem y13_s : y13.size = 2 := rfl
@[simp] theorem y13_b : y13.bytes = 24 := rfl
def y14 : TI := ⟨.struct #[⟨ "msg", 9, 0, false, "", "runtime", 0⟩, ⟨ "addr", 12, 1, false, "", "runtime", 16⟩], 2, 24, [.string .empty, .int .u64 0], []⟩
@[simp] theorem y14_s : y14.size = 2 := rfl
@[simp] theorem y14_b : y14.bytes = 24 := rfl
def y15 : TI := ⟨.pointer 189, 1, 8, [.pointer none], []⟩
@[simp] theorem y15_s : y15.size = 1 := rfl
@[simp] theorem y15_b : y15.bytes = 8 := rfl
def y16 : TI := ⟨.pointer 192, 1, 8, [.pointer none], []⟩
@[simp] theorem y16_s : y16.size = 1 := rfl
@[simp] theorem y16_b : y16.bytes = 8 := rfl
def y17 : TI := ⟨.pointer 200, 1, 8, [.pointer none], []⟩
@[simp] theorem y17_s : y17.size = 1 := rfl
@[simp] theorem y17_b : y17.bytes = 8 := rfl
def y18 : TI := ⟨.struct #[⟨ "typ", 17, 0, false, "", "internal/runtime/maps", 0⟩], 1, 8, [.pointer none], []⟩
@[simp] theorem y18_s : y18.size = 1 := rfl
@[simp] theorem y18_b : y18.bytes = 8 := rfl
def y19 : TI := ⟨.struct #[⟨ "typ", 17, 0, false, "", "internal/runtime/maps", 0⟩], 1, 8, [.pointer none], []⟩
@[simp] theorem y19_s : y19.size = 1 := rfl
@[simp] theorem y19_b : y19.bytes = 8 := rfl
def y21 : TI := ⟨.int .i32, 1, 4, [.int .i32 0], []⟩
@[simp] theorem y21_s : y21.size = 1 := rfl
@[simp] theorem y21_b : y21.bytes = 4 := rfl
def y22 : TI := ⟨.slice 80, 1, 24, [.slice none 0 0], []⟩
@[simp] theorem y22_s : y22.size = 1 := rfl
@[simp] theorem y22_b : y22.bytes = 24 := rfl
def y23 : TI := ⟨.slice 3, 1, 24, [.slice none 0 0], []⟩
@[simp] theorem y23_s : y23.size = 1 := rfl
@[simp] theorem y23_b : y23.bytes = 24 := rfl
def y25 : TI := ⟨.slice 78, 1, 24, [.slice none 0 0], []⟩
@[simp] theorem y25_s : y25.size = 1 := rfl
@[simp] theorem y25_b : y25.bytes = 24 := rfl
def y35 : TI := ⟨.array 4 3, 4, 32, [.int .i64 0, .int .i64 0, .int .i64 0, .int .i64 0], [.int .i64, .int .i64, .int .i64, .int .i64]⟩
@[simp] theorem y35_s : y35.size = 4 := rfl
@[simp] theorem y35_b : y35.bytes = 32 := rfl
def y45 : TI := ⟨.struct #[⟨ "Glasses", 35, 0, false, "", "", 0⟩], 4, 32, [.int .i64 0, .int .i64 0, .int .i64 0, .int .i64 0], [.int .i64, .int .i64, .int .i64, .int .i64]⟩
@[simp] theorem y45_s : y45.size = 4 := rfl
@[simp] theorem y45_b : y45.bytes = 32 := rfl
def y46 : TI := ⟨.struct #[⟨ "Glasses", 35, 0, false, "", "", 0⟩], 4, 32, [.int .i64 0, .int .i64 0, .int .i64 0, .int .i64 0], [.int .i64, .int .i64, .int .i64, .int .i64]⟩
@[simp] theorem y46_s : y46.size = 4 := rfl
@[simp] theorem y46_b : y46.bytes = 32 := rfl
def y47 : TI := ⟨.slice 97, 1, 24, [.slice none 0 0], []⟩
@[simp] theorem y47_s : y47.size = 1 := rfl
@[simp] theorem y47_b : y47.bytes = 24 := rfl
def y50 : TI := ⟨.struct #[⟨ "Glasses", 35, 0, false, "", "", 0⟩], 4, 32, [.int .i64 0, .int .i64 0, .int .i64 0, .int .i64 0], [.int .i64, .int .i64, .int .i64, .int .i64]⟩
@[simp] theorem y50_s : y50.size = 4 := rfl
@[simp] theorem y50_b : y50.bytes = 32 := rfl
def y52 : TI := ⟨.slice 95, 1, 24, [.slice none 0 0], []⟩
@[simp] theorem y52_s : y52.size = 1 := rfl
@[simp] theorem y52_b : y52.bytes = 24 := rfl
def y74 : TI := ⟨.array 3 3, 3, 24, [.int .i64 0, .int .i64 0, .int .i64 0], [.int .i64, .int .i64, .int .i64]⟩
@[simp] theorem y74_s : y74.size = 3 := rfl
@[simp] theorem y74_b : y74.bytes = 24 := rfl
def y77 : TI := ⟨.struct #[⟨ "Room", 3, 0, false, "", "", 0⟩, ⟨ "Leak", 3, 1, false, "", "", 8⟩, ⟨ "Level", 3, 2, false, "", "", 16⟩], 3, 24, [.int .i64 0, .int .i64 0, .int .i64 0], [.int .i64, .int .i64, .int .i64]⟩
@[simp] theorem y77_s : y77.size = 3 := rfl
@[simp] theorem y77_b : y77.bytes = 24 := rfl
def y78 : TI := ⟨.struct #[⟨ "Room", 3, 0, false, "", "", 0⟩, ⟨ "Leak", 3, 1, false, "", "", 8⟩, ⟨ "Level", 3, 2, false, "", "", 16⟩], 3, 24, [.int .i64 0, .int .i64 0, .int .i64 0], [.int .i64, .int .i64, .int .i64]⟩
@[simp] theorem y78_s : y78.size = 3 := rfl
@[simp] theorem y78_b : y78.bytes = 24 := rfl
def y80 : TI := ⟨.struct #[⟨ "Room", 3, 0, false, "", "", 0⟩, ⟨ "Leak", 3, 1, false, "", "", 8⟩, ⟨ "Level", 3, 2, false, "", "", 16⟩], 3, 24, [.int .i64 0, .int .i64 0, .int .i64 0], [.int .i64, .int .i64, .int .i64]⟩
@[simp] theorem y80_s : y80.size = 3 := rfl
@[simp] theorem y80_b : y80.bytes = 24 := rfl
def y82 : TI := ⟨.struct #[⟨ "list", 25, 0, false, "", "loop.example/g01187/impl", 0⟩, ⟨ "spilt", 3, 1, false, "", "loop.example/g01187/impl", 24⟩, ⟨ "out", 3, 2, false, "", "loop.example/g01187/impl", 32⟩, ⟨ "poured", 3, 3, false, "", "loop.example/g01187/impl", 40⟩], 4, 48, [.slice none 0 0, .int .i64 0, .int .i64 0, .int .i64 0], []⟩
@[simp] theorem y82_s : y82.size = 4 := rfl
@[simp] theorem y82_b : y82.bytes = 48 := rfl
def y83 : TI := ⟨.struct #[⟨ "list", 25, 0, false, "", "loop.example/g01187/impl", 0⟩, ⟨ "spilt", 3, 1, false, "", "loop.example/g01187/impl", 24⟩, ⟨ "out", 3, 2, false, "", "loop.example/g01187/impl", 32⟩, ⟨ "poured", 3, 3, false, "", "loop.example/g01187/impl", 40⟩], 4, 48, [.slice none 0 0, .int .i64 0, .int .i64 0, .int .i64 0], []⟩
@[simp] theorem y83_s : y83.size = 4 := rfl
@[simp] theorem y83_b : y83.bytes = 48 := rfl
def y84 : TI := ⟨.pointer 83, 1, 8, [.pointer none], []⟩
@[simp] theorem y84_s : y84.size = 1 := rfl
@[simp] theorem y84_b : y84.bytes = 8 := rfl
def y94 : TI := ⟨.struct #[⟨ "Minutes", 3, 0, false, "", "", 0⟩, ⟨ "From", 3, 1, false, "", "", 8⟩, ⟨ "To", 3, 2, false, "", "", 16⟩], 3, 24, [.int .i64 0, .int .i64 0, .int .i64 0], [.int .i64, .int .i64, .int .i64]⟩
@[simp] theorem y94_s : y94.size = 3 := rfl
@[simp] theorem y94_b : y94.bytes = 24 := rfl
def y95 : TI := ⟨.struct #[⟨ "Minutes", 3, 0, false, "", "", 0⟩, ⟨ "From", 3, 1, false, "", "", 8⟩, ⟨ "To", 3, 2, false, "", "", 16⟩], 3, 24, [.int .i64 0, .int .i64 0, .int .i64 0], [.int .i64, .int .i64, .int .i64]⟩
@[simp] theorem y95_s : y95.size = 3 := rfl
@[simp] theorem y95_b : y95.bytes = 24 := rfl
def y97 : TI := ⟨.struct #[⟨ "Minutes", 3, 0, false, "", "", 0⟩, ⟨ "From", 3, 1, false, "", "", 8⟩, ⟨ "To", 3, 2, false, "", "", 16⟩], 3, 24, [.int .i64 0, .int .i64 0, .int .i64 0], [.int .i64, .int .i64, .int .i64]⟩
@[simp] theorem y97_s : y97.size = 3 := rfl
@[simp] theorem y97_b : y97.bytes = 24 := rfl
def y106 : TI := ⟨.pointer 108, 1, 8, [.pointer none], []⟩
@[simp] theorem y106_s : y106.size = 1 := rfl
@[simp] theorem y106_b : y106.bytes = 8 := rfl
def y107 : TI := ⟨.struct #[⟨ "k", 50, 0, false, "", "loop.example/g01187/impl", 0⟩, ⟨ "list", 52, 4, false, "", "loop.example/g01187/impl", 32⟩], 5, 56, [.int .i64 0, .int .i64 0, .int .i64 0, .int .i64 0, .slice none 0 0], []⟩
@[simp] theorem y107_s : y107.size = 5 := rfl
@[simp] theorem y107_b : y107.bytes = 56 := rfl
def y108 : TI := ⟨.struct #[⟨ "k", 50, 0, false, "", "loop.example/g01187/impl", 0⟩, ⟨ "list", 52, 4, false, "", "loop.example/g01187/impl", 32⟩], 5, 56, [.int .i64 0, .int .i64 0, .int .i64 0, .int .i64 0, .slice none 0 0], []⟩
@[simp] theorem y108_s : y108.size = 5 := rfl
@[simp] theorem y108_b : y108.bytes = 56 := rfl
def y112 : TI := ⟨.slice 4, 1, 24, [.slice none 0 0], []⟩
@[simp] theorem y112_s : y112.size = 1 := rfl
@[simp] theorem y112_b : y112.bytes = 24 := rfl
def y113 : TI := ⟨.slice 112, 1, 24, [.slice none 0 0], []⟩
@[simp] theorem y113_s : y113.size = 1 := rfl
@[simp] theorem y113_b : y113.bytes = 24 := rfl
def y116 : TI := ⟨.pointer 154, 1, 8, [.pointer none], []⟩
@[simp] theorem y116_s : y116.size = 1 := rfl
@[simp] theorem y116_b : y116.bytes = 8 := rfl
def y119 : TI := ⟨.struct #[⟨ "sand", 35, 0, false, "", "loop.example/g01187/impl", 0⟩, ⟨ "time", 3, 4, false, "", "loop.example/g01187/impl", 32⟩], 5, 40, [.int .i64 0, .int .i64 0, .int .i64 0, .int .i64 0, .int .i64 0], [.int .i64, .int .i64, .int .i64, .int .i64, .int .i64]⟩
@[simp] theorem y119_s : y119.size = 5 := rfl
@[simp] theorem y119_b : y119.bytes = 40 := rfl
def y120 : TI := ⟨.struct #[⟨ "sand", 35, 0, false, "", "loop.example/g01187/impl", 0⟩, ⟨ "time", 3, 4, false, "", "loop.example/g01187/impl", 32⟩], 5, 40, [.int .i64 0, .int .i64 0, .int .i64 0, .int .i64 0, .int .i64 0], [.int .i64, .int .i64, .int .i64, .int .i64, .int .i64]⟩
@[simp] theorem y120_s : y120.size = 5 := rfl
@[simp] theorem y120_b : y120.bytes = 40 := rfl
def y128 : TI := ⟨.map 120 3, 1, 8, [.map none], []⟩
@[simp] theorem y128_s : y128.size = 1 := rfl
@[simp] theorem y128_b : y128.bytes = 8 := rfl
def y145 : TI := ⟨.int .u64, 1, 8, [.int .u64 0], []⟩
@[simp] theorem y145_s : y145.size = 1 := rfl
@[simp] theorem y145_b : y145.bytes = 8 := rfl
def y147 : TI := ⟨.slice 148, 1, 24, [.slice none 0 0], []⟩
@[simp] theorem y147_s : y147.size = 1 := rfl
@[simp] theorem y147_b : y147.bytes = 24 := rfl
def y148 : TI := ⟨.slice 151, 1, 24, [.slice none 0 0], []⟩
@[simp] theorem y148_s : y148.size = 1 := rfl
@[simp] theorem y148_b : y148.bytes = 24 := rfl
def y151 : TI := ⟨.array 2 3, 2, 16, [.int .i64 0, .int .i64 0], [.int .i64, .int .i64]⟩
@[simp] theorem y151_s : y151.size = 2 := rfl
@[simp] theorem y151_b : y151.bytes = 16 := rfl
def y152 : TI := ⟨.map 120 4, 1, 8, [.map none], []⟩
@[simp] theorem y152_s : y152.size = 1 := rfl
@[simp] theorem y152_b : y152.bytes = 8 := rfl
def y153 : TI := ⟨.struct #[⟨ "k", 50, 0, false, "", "loop.example/g01187/impl", 0⟩, ⟨ "known", 152, 4, false, "", "loop.example/g01187/impl", 32⟩], 5, 40, [.int .i64 0, .int .i64 0, .int .i64 0, .int .i64 0, .map none], []⟩
@[simp] theorem y153_s : y153.size = 5 := rfl
@[simp] theorem y153_b : y153.bytes = 40 := rfl
def y154 : TI := ⟨.struct #[⟨ "k", 50, 0, false, "", "loop.example/g01187/impl", 0⟩, ⟨ "known", 152, 4, false, "", "loop.example/g01187/impl", 32⟩], 5, 40, [.int .i64 0, .int .i64 0, .int .i64 0, .int .i64 0, .map none], []⟩
@[simp] theorem y154_s : y154.size = 5 := rfl
@[simp] theorem y154_b : y154.bytes = 40 := rfl
def y163 : TI := ⟨.pointer 78, 1, 8, [.pointer none], []⟩
@[simp] theorem y163_s : y163.size = 1 := rfl
@[simp] theorem y163_b : y163.bytes = 8 := rfl
def y166 : TI := ⟨.int .i64, 1, 8, [.int .i64 0], []⟩
@[simp] theorem y166_s : y166.size = 1 := rfl
@[simp] theorem y166_b : y166.bytes = 8 := rfl
def y173 : TI := ⟨.int .u32, 1, 4, [.int .u32 0], []⟩
@[simp] theorem y173_s : y173.size = 1 := rfl
@[simp] theorem y173_b : y173.bytes = 4 := rfl
def y175 : TI := ⟨.int .u64, 1, 8, [.int .u64 0], []⟩
@[simp] theorem y175_s : y175.size = 1 := rfl
@[simp] theorem y175_b : y175.bytes = 8 := rfl
def y179 : TI := ⟨.int .u64, 1, 8, [.int .u64 0], []⟩
@[simp] theorem y179_s : y179.size = 1 := rfl
@[simp] theorem y179_b : y179.bytes = 8 := rfl
def y183 : TI := ⟨.pointer 3, 1, 8, [.pointer none], []⟩
@[simp] theorem y183_s : y183.size = 1 := rfl
@[simp] theorem y183_b : y183.bytes = 8 := rfl
def y185 : TI := ⟨.pointer 179, 1, 8, [.pointer none], []⟩
@[simp] theorem y185_s : y185.size = 1 := rfl
@[simp] theorem y185_b : y185.bytes = 8 := rfl
def y188 : TI := ⟨.struct #[⟨ "_interface", 17, 0, false, "", "runtime", 0⟩, ⟨ "concrete", 17, 1, false, "", "runtime", 8⟩, ⟨ "asserted", 17, 2, false, "", "runtime", 16⟩, ⟨ "missingMethod", 9, 3, false, "", "runtime", 24⟩], 4, 40, [.pointer none, .pointer none, .pointer none, .string .empty], []⟩
@[simp] theorem y188_s : y188.size = 4 := rfl
@[simp] theorem y188_b : y188.bytes = 40 := rfl
def y189 : TI := ⟨.struct #[⟨ "_interface", 17, 0, false, "", "runtime", 0⟩, ⟨ "concrete", 17, 1, false, "", "runtime", 8⟩, ⟨ "asserted", 17, 2, false, "", "runtime", 16⟩, ⟨ "missingMethod", 9, 3, false, "", "runtime", 24⟩], 4, 40, [.pointer none, .pointer none, .pointer none, .string .empty], []⟩
@[simp] theorem y189_s : y189.size = 4 := rfl
@[simp] theorem y189_b : y189.bytes = 40 := rfl
def y193 : TI := ⟨.int .u8, 1, 1, [.int .u8 0], []⟩
@[simp] theorem y193_s : y193.size = 1 := rfl
@[simp] theorem y193_b : y193.bytes = 1 := rfl
def y194 : TI := ⟨.int .u8, 1, 1, [.int .u8 0], []⟩
@[simp] theorem y194_s : y194.size = 1 := rfl
@[simp] theorem y194_b : y194.bytes = 1 := rfl
def y196 : TI := ⟨.pointer 5, 1, 8, [.pointer none], []⟩
@[simp] theorem y196_s : y196.size = 1 := rfl
@[simp] theorem y196_b : y196.bytes = 8 := rfl
def y197 : TI := ⟨.int .i32, 1, 4, [.int .i32 0], []⟩
@[simp] theorem y197_s : y197.size = 1 := rfl
@[simp] theorem y197_b : y197.bytes = 4 := rfl
def y198 : TI := ⟨.int .i32, 1, 4, [.int .i32 0], []⟩
@[simp] theorem y198_s : y198.size = 1 := rfl
@[simp] theorem y198_b : y198.bytes = 4 := rfl
def y199 : TI := ⟨.struct #[⟨ "Size_", 12, 0, false, "", "", 0⟩, ⟨ "PtrBytes", 12, 1, false, "", "", 8⟩, ⟨ "Hash", 173, 2, false, "", "", 16⟩, ⟨ "TFlag", 193, 3, false, "", "", 20⟩, ⟨ "Align_", 5, 4, false, "", "", 21⟩, ⟨ "FieldAlign_", 5, 5, false, "", "", 22⟩, ⟨ "Kind_", 194, 6, false, "", "", 23⟩, ⟨ "Equal", 195, 7, false, "", "", 24⟩, ⟨ "GCData", 196, 8, false, "", "", 32⟩, ⟨ "Str", 197, 9, false, "", "", 40⟩, ⟨ "PtrToThis", 198, 10, false, "", "", 44⟩], 11, 48, [.int .u64 0, .int .u64 0, .int .u32 0, .int .u8 0, .int .u8 0, .int .u8 0, .int .u8 0, .nilFunc, .pointer none, .int .i32 0, .int .i32 0], []⟩
@[simp] theorem y199_s : y199.size = 11 := rfl
@[simp] theorem y199_b : y199.bytes = 48 := rfl
def y200 : TI := ⟨.struct #[⟨ "Size_", 12, 0, false, "", "", 0⟩, ⟨ "PtrBytes", 12, 1, false, "", "", 8⟩, ⟨ "Hash", 173, 2, false, "", "", 16⟩, ⟨ "TFlag", 193, 3, false, "", "", 20⟩, ⟨ "Align_", 5, 4, false, "", "", 21⟩, ⟨ "FieldAlign_", 5, 5, false, "", "", 22⟩, ⟨ "Kind_", 194, 6, false, "", "", 23⟩, ⟨ "Equal", 195, 7, false, "", "", 24⟩, ⟨ "GCData", 196, 8, false, "", "", 32⟩, ⟨ "Str", 197, 9, false, "", "", 40⟩, ⟨ "PtrToThis", 198, 10, false, "", "", 44⟩], 11, 48, [.int .u64 0, .int .u64 0, .int .u32 0, .int .u8 0, .int .u8 0, .int .u8 0, .int .u8 0, .nilFunc, .pointer none, .int .i32 0, .int .i32 0], []⟩
@[simp] theorem y200_s : y200.size = 11 := rfl
@[simp] theorem y200_b : y200.bytes = 48 := rfl
def T : TT := fun t => match t with
  | 2 => some y2
  | 3 => some y3
  | 4 => some y4
  | 5 => some y5
  | 6 => some y6
  | 7 => some y7
  | 8 => some y8
  | 9 => some y9
  | 10 => some y10
  | 11 => some y11
  | 12 => some y12
  | 13 => some y13
  | 14 => some y14
  | 15 => some y15
  | 16 => some y16
  | 17 => some y17
  | 18 => some y18
  | 19 => some y19
  | 21 => some y21
  | 22 => some y22
  | 23 => some y23
  | 25 => some y25
  | 35 => some y35
  | 45 => some y45
  | 46 => some y46
  | 47 => some y47
  | 50 => some y50
  | 52 => some y52
  | 74 => some y74
  | 77 => some y77
  | 78 => some y78
  | 80 => some y80
  | 82 => some y82
  | 83 => some y83
  | 84 => some y84
  | 94 => some y94
  | 95 => some y95
  | 97 => some y97
  | 106 => some y106
  | 107 => some y107
  | 108 => some y108
  | 112 => some y112
  | 113 => some y113
  | 116 => some y116
  | 119 => some y119
  | 120 => some y120
  | 128 => some y128
  | 145 => some y145
  | 147 => some y147
  | 148 => some y148
  | 151 => some y151
  | 152 => some y152
  | 153 => some y153
  | 154 => some y154
  | 163 => some y163
  | 166 => some y166
  | 173 => some y173
  | 175 => some y175
  | 179 => some y179
  | 183 => some y183
  | 185 => some y185
  | 188 => some y188
  | 189 => some y189
  | 193 => some y193
  | 194 => some y194
  | 196 => some y196
  | 197 => some y197
  | 198 => some y198
  | 199 => some y199
  | 200 => some y200
  | _ => none

theorem ti2 : (Try.prog.info? 2).map (fun i => (i.size, i.bytes, i.zero.map (·.cells))) = some (1, 8, some ⟨[.int .i64 0]⟩) := by kernel_rfl
theorem ti3 : (Try.prog.info? 3).map (fun i => (i.size, i.bytes, i.zero.map (·.cells))) = some (1, 8, some ⟨[.int .i64 0]⟩) := by kernel_rfl
theorem ti4 : (Try.prog.info? 4).map (fun i => (i.size, i.bytes, i.zero.map (·.cells))) = some (1, 1, some ⟨[.bool false]⟩) := by kernel_rfl
theorem ti5 : (Try.prog.info? 5).map (fun i => (i.size, i.bytes, i.zero.map (·.cells))) = some (1, 1, some ⟨[.int .u8 0]⟩) := by kernel_rfl
theorem ti6 : (Try.prog.info? 6).map (fun i => (i.size, i.bytes, i.zero.map (·.cells))) = some (1, 1, some ⟨[.int .u8 0]⟩) := by kernel_rfl
theorem ti7 : (Try.prog.info? 7).map (fun i => (i.size, i.bytes, i.zero.map (·.cells))) = some (4, 24, some ⟨[.int .i64 0, .int .i64 0, .bool false, .int .u8 0]⟩) := by kernel_rfl
theorem ti8 : (Try.prog.info? 8).map (fun i => (i.size, i.bytes, i.zero.map (·.cells))) = some (4, 24, some ⟨[.int .i64 0, .int .i64 0, .bool false, .int .u8 0]⟩) := by kernel_rfl
theorem ti9 : (Try.prog.info? 9).map (fun i => (i.size, i.bytes, i.zero.map (·.cells))) = some (1, 16, some ⟨[.string .empty]⟩) := by kernel_rfl
theorem ti10 : (Try.prog.info? 10).map (fun i => (i.size, i.bytes, i.zero.map (·.cells))) = some (1, 16, some ⟨[.string .empty]⟩) := by kernel_rfl
theorem ti11 : (Try.prog.info? 11).map (fun i => (i.size, i.bytes, i.zero.map (·.cells))) = some (1, 16, some ⟨[.string .empty]⟩) := by kernel_rfl
theorem ti12 : (Try.prog.info? 12).map (fun i => (i.size, i.bytes, i.zero.map (·.cells))) = some (1, 8, some ⟨[.int .u64 0]⟩) := by kernel_rfl
theorem ti13 : (Try.prog.info? 13).map (fun i => (i.size, i.bytes, i.zero.map (·.cells))) = some (2, 24, some ⟨[.string .empty, .int .u64 0]⟩) := by kernel_rfl
theorem ti14 : (Try.prog.info? 14).map (fun i => (i.size, i.bytes, i.zero.map (·.cells))) = some (2, 24, some ⟨[.string .empty, .int .u64 0]⟩) := by kernel_rfl
theorem ti15 : (Try.prog.info? 15).map (fun i => (i.size, i.bytes, i.zero.map (·.cells))) = some (1, 8, some ⟨[.pointer none]⟩) := by kernel_rfl
theorem ti16 : (Try.prog.info? 16).map (fun i => (i.size, i.bytes, i.zero.map (·.cells))) = some (1, 8, some ⟨[.pointer none]⟩) := by kernel_rfl
theorem ti17 : (Try.prog.info? 17).map (fun i => (i.size, i.bytes, i.zero.map (·.cells))) = some (1, 8, some ⟨[.pointer none]⟩) := by kernel_rfl
theorem ti18 : (Try.prog.info? 18).map (fun i => (i.size, i.bytes, i.zero.map (·.cells))) = some (1, 8, some ⟨[.pointer none]⟩) := by kernel_rfl
theorem ti19 : (Try.prog.info? 19).map (fun i => (i.size, i.bytes, i.zero.map (·.cells))) = some (1, 8, some ⟨[.pointer none]⟩) := by kernel_rfl
theorem ti21 : (Try.prog.info? 21).map (fun i => (i.size, i.bytes, i.zero.map (·.cells))) = some (1, 4, some ⟨[.int .i32 0]⟩) := by kernel_rfl
theorem ti22 : (Try.prog.info? 22).map (fun i => (i.size, i.bytes, i.zero.map (·.cells))) = some (1, 24, some ⟨[.slice none 0 0]⟩) := by kernel_rfl
theorem ti23 : (Try.prog.info? 23).map (fun i => (i.size, i.bytes, i.zero.map (·.cells))) = some (1, 24, some ⟨[.slice none 0 0]⟩) := by kernel_rfl
theorem ti25 : (Try.prog.info? 25).map (fun i => (i.size, i.bytes, i.zero.map (·.cells))) = some (1, 24, some ⟨[.slice none 0 0]⟩) := by kernel_rfl
theorem ti35 : (Try.prog.info? 35).map (fun i => (i.size, i.bytes, i.zero.map (·.cells))) = some (4, 32, some ⟨[.int .i64 0, .int .i64 0, .int .i64 0, .int .i64 0]⟩) := by kernel_rfl
theorem ti45 : (Try.prog.info? 45).map (fun i => (i.size, i.bytes, i.zero.map (·.cells))) = some (4, 32, some ⟨[.int .i64 0, .int .i64 0, .int .i64 0, .int .i64 0]⟩) := by kernel_rfl
theorem ti46 : (Try.prog.info? 46).map (fun i => (i.size, i.bytes, i.zero.map (·.cells))) = some (4, 32, some ⟨[.int .i64 0, .int .i64 0, .int .i64 0, .int .i64 0]⟩) := by kernel_rfl
theorem ti47 : (Try.prog.info? 47).map (fun i => (i.size, i.bytes, i.zero.map (·.cells))) = some (1, 24, some ⟨[.slice none 0 0]⟩) := by kernel_rfl
theorem ti50 : (Try.prog.info? 50).map (fun i => (i.size, i.bytes, i.zero.map (·.cells))) = some (4, 32, some ⟨[.int .i64 0, .int .i64 0, .int .i64 0, .int .i64 0]⟩) := by kernel_rfl
theorem ti52 : (Try.prog.info? 52).map (fun i => (i.size, i.bytes, i.zero.map (·.cells))) = some (1, 24, some ⟨[.slice none 0 0]⟩) := by kernel_rfl
theorem ti74 : (Try.prog.info? 74).map (fun i => (i.size, i.bytes, i.zero.map (·.cells))) = some (3, 24, some ⟨[.int .i64 0, .int .i64 0, .int .i64 0]⟩) := by kernel_rfl
theorem ti77 : (Try.prog.info? 77).map (fun i => (i.size, i.bytes, i.zero.map (·.cells))) = some (3, 24, some ⟨[.int .i64 0, .int .i64 0, .int .i64 0]⟩) := by kernel_rfl
theorem ti78 : (Try.prog.info? 78).map (fun i => (i.size, i.bytes, i.zero.map (·.cells))) = some (3, 24, some ⟨[.int .i64 0, .int .i64 0, .int .i64 0]⟩) := by kernel_rfl
theorem ti80 : (Try.prog.info? 80).map (fun i => (i.size, i.bytes, i.zero.map (·.cells))) = some (3, 24, some ⟨[.int .i64 0, .int .i64 0, .int .i64 0]⟩) := by kernel_rfl
theorem ti82 : (Try.prog.info? 82).map (fun i => (i.size, i.bytes, i.zero.map (·.cells))) = some (4, 48, some ⟨[.slice none 0 0, .int .i64 0, .int .i64 0, .int .i64 0]⟩) := by kernel_rfl
theorem ti83 : (Try.prog.info? 83).map (fun i => (i.size, i.bytes, i.zero.map (·.cells))) = some (4, 48, some ⟨[.slice none 0 0, .int .i64 0, .int .i64 0, .int .i64 0]⟩) := by kernel_rfl
theorem ti84 : (Try.prog.info? 84).map (fun i => (i.size, i.bytes, i.zero.map (·.cells))) = some (1, 8, some ⟨[.pointer none]⟩) := by kernel_rfl
theorem ti94 : (Try.prog.info? 94).map (fun i => (i.size, i.bytes, i.zero.map (·.cells))) = some (3, 24, some ⟨[.int .i64 0, .int .i64 0, .int .i64 0]⟩) := by kernel_rfl
theorem ti95 : (Try.prog.info? 95).map (fun i => (i.size, i.bytes, i.zero.map (·.cells))) = some (3, 24, some ⟨[.int .i64 0, .int .i64 0, .int .i64 0]⟩) := by kernel_rfl
theorem ti97 : (Try.prog.info? 97).map (fun i => (i.size, i.bytes, i.zero.map (·.cells))) = some (3, 24, some ⟨[.int .i64 0, .int .i64 0, .int .i64 0]⟩) := by kernel_rfl
theorem ti106 : (Try.prog.info? 106).map (fun i => (i.size, i.bytes, i.zero.map (·.cells))) = some (1, 8, some ⟨[.pointer none]⟩) := by kernel_rfl
theorem ti107 : (Try.prog.info? 107).map (fun i => (i.size, i.bytes, i.zero.map (·.cells))) = some (5, 56, some ⟨[.int .i64 0, .int .i64 0, .int .i64 0, .int .i64 0, .slice none 0 0]⟩) := by kernel_rfl
theorem ti108 : (Try.prog.info? 108).map (fun i => (i.size, i.bytes, i.zero.map (·.cells))) = some (5, 56, some ⟨[.int .i64 0, .int .i64 0, .int .i64 0, .int .i64 0, .slice none 0 0]⟩) := by kernel_rfl
theorem ti112 : (Try.prog.info? 112).map (fun i => (i.size, i.bytes, i.zero.map (·.cells))) = some (1, 24, some ⟨[.slice none 0 0]⟩) := by kernel_rfl
theorem ti113 : (Try.prog.info? 113).map (fun i => (i.size, i.bytes, i.zero.map (·.cells))) = some (1, 24, some ⟨[.slice none 0 0]⟩) := by kernel_rfl
theorem ti116 : (Try.prog.info? 116).map (fun i => (i.size, i.bytes, i.zero.map (·.cells))) = some (1, 8, some ⟨[.pointer none]⟩) := by kernel_rfl
theorem ti119 : (Try.prog.info? 119).map (fun i => (i.size, i.bytes, i.zero.map (·.cells))) = some (5, 40, some ⟨[.int .i64 0, .int .i64 0, .int .i64 0, .int .i64 0, .int .i64 0]⟩) := by kernel_rfl
theorem ti120 : (Try.prog.info? 120).map (fun i => (i.size, i.bytes, i.zero.map (·.cells))) = some (5, 40, some ⟨[.int .i64 0, .int .i64 0, .int .i64 0, .int .i64 0, .int .i64 0]⟩) := by kernel_rfl
theorem ti128 : (Try.prog.info? 128).map (fun i => (i.size, i.bytes, i.zero.map (·.cells))) = some (1, 8, some ⟨[.map none]⟩) := by kernel_rfl
theorem ti145 : (Try.prog.info? 145).map (fun i => (i.size, i.bytes, i.zero.map (·.cells))) = some (1, 8, some ⟨[.int .u64 0]⟩) := by kernel_rfl
theorem ti147 : (Try.prog.info? 147).map (fun i => (i.size, i.bytes, i.zero.map (·.cells))) = some (1, 24, some ⟨[.slice none 0 0]⟩) := by kernel_rfl
theorem ti148 : (Try.prog.info? 148).map (fun i => (i.size, i.bytes, i.zero.map (·.cells))) = some (1, 24, some ⟨[.slice none 0 0]⟩) := by kernel_rfl
theorem ti151 : (Try.prog.info? 151).map (fun i => (i.size, i.bytes, i.zero.map (·.cells))) = some (2, 16, some ⟨[.int .i64 0, .int .i64 0]⟩) := by kernel_rfl
theorem ti152 : (Try.prog.info? 152).map (fun i => (i.size, i.bytes, i.zero.map (·.cells))) = some (1, 8, some ⟨[.map none]⟩) := by kernel_rfl
theorem ti153 : (Try.prog.info? 153).map (fun i => (i.size, i.bytes, i.zero.map (·.cells))) = some (5, 40, some ⟨[.int .i64 0, .int .i64 0, .int .i64 0, .int .i64 0, .map none]⟩) := by kernel_rfl
theorem ti154 : (Try.prog.info? 154).map (fun i => (i.size, i.bytes, i.zero.map (·.cells))) = some (5, 40, some ⟨[.int .i64 0, .int .i64 0, .int .i64 0, .int .i64 0, .map none]⟩) := by kernel_rfl
theorem ti163 : (Try.prog.info? 163).map (fun i => (i.size, i.bytes, i.zero.map (·.cells))) = some (1, 8, some ⟨[.pointer none]⟩) := by kernel_rfl
theorem ti166 : (Try.prog.info? 166).map (fun i => (i.size, i.bytes, i.zero.map (·.cells))) = some (1, 8, some ⟨[.int .i64 0]⟩) := by kernel_rfl
theorem ti173 : (Try.prog.info? 173).map (fun i => (i.size, i.bytes, i.zero.map (·.cells))) = some (1, 4, some ⟨[.int .u32 0]⟩) := by kernel_rfl
theorem ti175 : (Try.prog.info? 175).map (fun i => (i.size, i.bytes, i.zero.map (·.cells))) = some (1, 8, some ⟨[.int .u64 0]⟩) := by kernel_rfl
theorem ti179 : (Try.prog.info? 179).map (fun i => (i.size, i.bytes, i.zero.map (·.cells))) = some (1, 8, some ⟨[.int .u64 0]⟩) := by kernel_rfl
theorem ti183 : (Try.prog.info? 183).map (fun i => (i.size, i.bytes, i.zero.map (·.cells))) = some (1, 8, some ⟨[.pointer none]⟩) := by kernel_rfl
theorem ti185 : (Try.prog.info? 185).map (fun i => (i.size, i.bytes, i.zero.map (·.cells))) = some (1, 8, some ⟨[.pointer none]⟩) := by kernel_rfl
theorem ti188 : (Try.prog.info? 188).map (fun i => (i.size, i.bytes, i.zero.map (·.cells))) = some (4, 40, some ⟨[.pointer none, .pointer none, .pointer none, .string .empty]⟩) := by kernel_rfl
theorem ti189 : (Try.prog.info? 189).map (fun i => (i.size, i.bytes, i.zero.map (·.cells))) = some (4, 40, some ⟨[.pointer none, .pointer none, .pointer none, .string .empty]⟩) := by kernel_rfl
theorem ti193 : (Try.prog.info? 193).map (fun i => (i.size, i.bytes, i.zero.map (·.cells))) = some (1, 1, some ⟨[.int .u8 0]⟩) := by kernel_rfl
theorem ti194 : (Try.prog.info? 194).map (fun i => (i.size, i.bytes, i.zero.map (·.cells))) = some (1, 1, some ⟨[.int .u8 0]⟩) := by kernel_rfl
theorem ti196 : (Try.prog.info? 196).map (fun i => (i.size, i.bytes, i.zero.map (·.cells))) = some (1, 8, some ⟨[.pointer none]⟩) := by kernel_rfl
theorem ti197 : (Try.prog.info? 197).map (fun i => (i.size, i.bytes, i.zero.map (·.cells))) = some (1, 4, some ⟨[.int .i32 0]⟩) := by kernel_rfl
theorem ti198 : (Try.prog.info? 198).map (fun i => (i.size, i.bytes, i.zero.map (·.cells))) = some (1, 4, some ⟨[.int .i32 0]⟩) := by kernel_rfl
theorem ti199 : (Try.prog.info? 199).map (fun i => (i.size, i.bytes, i.zero.map (·.cells))) = some (11, 48, some ⟨[.int .u64 0, .int .u64 0, .int .u32 0, .int .u8 0, .int .u8 0, .int .u8 0, .int .u8 0, .nilFunc, .pointer none, .int .i32 0, .int .i32 0]⟩) := by kernel_rfl
theorem ti200 : (Try.prog.info? 200).map (fun i => (i.size, i.bytes, i.zero.map (·.cells))) = some (11, 48, some ⟨[.int .u64 0, .int .u64 0, .int .u32 0, .int .u8 0, .int .u8 0, .int .u8 0, .int .u8 0, .nilFunc, .pointer none, .int .i32 0, .int .i32 0]⟩) := by kernel_rfl

theorem tok_of {t s b : Nat} {d : TypeDesc} {z : List Value} {c : List TypeDesc} (h1 : Try.prog.underlying t = some d) (h2 : (Try.prog.info? t).map (fun i => (i.size, i.bytes, i.zero.map (·.cells))) = some (s, b, some ⟨z⟩)) (h3 : z.length = s) (h4 : z.all flat0 = true) (h5 : c ≠ [] → CmpOk Try.prog t c) :
    Try.prog.underlying t = some d ∧ ∃ i, Try.prog.info? t = some i ∧ i.size = s ∧ i.bytes = b ∧ (∃ v, i.zero = some v ∧ v.cells = ⟨z⟩) ∧ z.length = s ∧ z.all flat0 = true ∧ (c ≠ [] → CmpOk Try.prog t c) := by
  refine ⟨h1, ?_⟩
  cases e : Try.prog.info? t with
  | none => rw [e] at h2; cases h2
  | some i =>
    rw [e] at h2
    simp only [Option.map_some, Option.some.injEq, Prod.mk.injEq] at h2
    refine ⟨i, rfl, h2.1, h2.2.1, ?_, h3, h4, h5⟩
    cases e2 : i.zero with
    | none => rw [e2] at h2; cases h2.2.2
    | some v => rw [e2] at h2; exact ⟨v, rfl, Option.some.inj h2.2.2⟩

theorem cm35 : CmpOk Try.prog 35 [.int .i64, .int .i64, .int .i64, .int .i64] := cmp_ok (f := 20) (by kernel_rfl) (by kernel_rfl) (by omega) (by kernel_rfl) (by kernel_rfl)
theorem cm45 : CmpOk Try.prog 45 [.int .i64, .int .i64, .int .i64, .int .i64] := cmp_ok (f := 20) (by kernel_rfl) (by kernel_rfl) (by omega) (by kernel_rfl) (by kernel_rfl)
theorem cm46 : CmpOk Try.prog 46 [.int .i64, .int .i64, .int .i64, .int .i64] := cmp_ok (f := 20) (by kernel_rfl) (by kernel_rfl) (by omega) (by kernel_rfl) (by kernel_rfl)
theorem cm50 : CmpOk Try.prog 50 [.int .i64, .int .i64, .int .i64, .int .i64] := cmp_ok (f := 20) (by kernel_rfl) (by kernel_rfl) (by omega) (by kernel_rfl) (by kernel_rfl)
theorem cm74 : CmpOk Try.prog 74 [.int .i64, .int .i64, .int .i64] := cmp_ok (f := 20) (by kernel_rfl) (by kernel_rfl) (by omega) (by kernel_rfl) (by kernel_rfl)
theorem cm77 : CmpOk Try.prog 77 [.int .i64, .int .i64, .int .i64] := cmp_ok (f := 20) (by kernel_rfl) (by kernel_rfl) (by omega) (by kernel_rfl) (by kernel_rfl)
theorem cm78 : CmpOk Try.prog 78 [.int .i64, .int .i64, .int .i64] := cmp_ok (f := 20) (by kernel_rfl) (by kernel_rfl) (by omega) (by kernel_rfl) (by kernel_rfl)
theorem cm80 : CmpOk Try.prog 80 [.int .i64, .int .i64, .int .i64] := cmp_ok (f := 20) (by kernel_rfl) (by kernel_rfl) (by omega) (by kernel_rfl) (by kernel_rfl)
theorem cm94 : CmpOk Try.prog 94 [.int .i64, .int .i64, .int .i64] := cmp_ok (f := 20) (by kernel_rfl) (by kernel_rfl) (by omega) (by kernel_rfl) (by kernel_rfl)
theorem cm95 : CmpOk Try.prog 95 [.int .i64, .int .i64, .int .i64] := cmp_ok (f := 20) (by kernel_rfl) (by kernel_rfl) (by omega) (by kernel_rfl) (by kernel_rfl)
theorem cm97 : CmpOk Try.prog 97 [.int .i64, .int .i64, .int .i64] := cmp_ok (f := 20) (by kernel_rfl) (by kernel_rfl) (by omega) (by kernel_rfl) (by kernel_rfl)
theorem cm119 : CmpOk Try.prog 119 [.int .i64, .int .i64, .int .i64, .int .i64, .int .i64] := cmp_ok (f := 20) (by kernel_rfl) (by kernel_rfl) (by omega) (by kernel_rfl) (by kernel_rfl)
theorem cm120 : CmpOk Try.prog 120 [.int .i64, .int .i64, .int .i64, .int .i64, .int .i64] := cmp_ok (f := 20) (by kernel_rfl) (by kernel_rfl) (by omega) (by kernel_rfl) (by kernel_rfl)
theorem cm151 : CmpOk Try.prog 151 [.int .i64, .int .i64] := cmp_ok (f := 20) (by kernel_rfl) (by kernel_rfl) (by omega) (by kernel_rfl) (by kernel_rfl)
theorem T_ok : TOk Try.prog T := by
  intro t ti h
  unfold T at h
  split at h
  · obtain rfl := Option.some.inj h; exact tok_of Try.underlying2 ti2 rfl rfl (fun h => absurd rfl h)
  · obtain rfl := Option.some.inj h; exact tok_of Try.underlying3 ti3 rfl rfl (fun h => absurd rfl h)
  · obtain rfl := Option.some.inj h; exact tok_of Try.underlying4 ti4 rfl rfl (fun h => absurd rfl h)
  · obtain rfl := Option.some.inj h; exact tok_of Try.underlying5 ti5 rfl rfl (fun h => absurd rfl h)
  · obtain rfl := Option.some.inj h; exact tok_of Try.underlying6 ti6 rfl rfl (fun h => absurd rfl h)
  · obtain rfl := Option.some.inj h; exact tok_of Try.underlying7 ti7 rfl rfl (fun h => absurd rfl h)
  · obtain rfl := Option.some.inj h; exact tok_of Try.underlying8 ti8 rfl rfl (fun h => absurd rfl h)
  · obtain rfl := Option.some.inj h; exact tok_of Try.underlying9 ti9 rfl rfl (fun h => absurd rfl h)
  · obtain rfl := Option.some.inj h; exact tok_of Try.underlying10 ti10 rfl rfl (fun h => absurd rfl h)
  · obtain rfl := Option.some.inj h; exact tok_of Try.underlying11 ti11 rfl rfl (fun h => absurd rfl h)
  · obtain rfl := Option.some.inj h; exact tok_of Try.underlying12 ti12 rfl rfl (fun h => absurd rfl h)
  · obtain rfl := Option.some.inj h; exact tok_of Try.underlying13 ti13 rfl rfl (fun h => absurd rfl h)
  · obtain rfl := Option.some.inj h; exact tok_of Try.underlying14 ti14 rfl rfl (fun h => absurd rfl h)
  · obtain rfl := Option.some.inj h; exact tok_of Try.underlying15 ti15 rfl rfl (fun h => absurd rfl h)
  · obtain rfl := Option.some.inj h; exact tok_of Try.underlying16 ti16 rfl rfl (fun h => absurd rfl h)
  · obtain rfl := Option.some.inj h; exact tok_of Try.underlying17 ti17 rfl rfl (fun h => absurd rfl h)
  · obtain rfl := Option.some.inj h; exact tok_of Try.underlying18 ti18 rfl rfl (fun h => absurd rfl h)
  · obtain rfl := Option.some.inj h; exact tok_of Try.underlying19 ti19 rfl rfl (fun h => absurd rfl h)
  · obtain rfl := Option.some.inj h; exact tok_of Try.underlying21 ti21 rfl rfl (fun h => absurd rfl h)
  · obtain rfl := Option.some.inj h; exact tok_of Try.underlying22 ti22 rfl rfl (fun h => absurd rfl h)
  · obtain rfl := Option.some.inj h; exact tok_of Try.underlying23 ti23 rfl rfl (fun h => absurd rfl h)
  · obtain rfl := Option.some.inj h; exact tok_of Try.underlying25 ti25 rfl rfl (fun h => absurd rfl h)
  · obtain rfl := Option.some.inj h; exact tok_of Try.underlying35 ti35 rfl rfl (fun _ => cm35)
  · obtain rfl := Option.some.inj h; exact tok_of Try.underlying45 ti45 rfl rfl (fun _ => cm45)
  · obtain rfl := Option.some.inj h; exact tok_of Try.underlying46 ti46 rfl rfl (fun _ => cm46)
  · obtain rfl := Option.some.inj h; exact tok_of Try.underlying47 ti47 rfl rfl (fun h => absurd rfl h)
  · obtain rfl := Option.some.inj h; exact tok_of Try.underlying50 ti50 rfl rfl (fun _ => cm50)
  · obtain rfl := Option.some.inj h; exact tok_of Try.underlying52 ti52 rfl rfl (fun h => absurd rfl h)
  · obtain rfl := Option.some.inj h; exact tok_of Try.underlying74 ti74 rfl rfl (fun _ => cm74)
  · obtain rfl := Option.some.inj h; exact tok_of Try.underlying77 ti77 rfl rfl (fun _ => cm77)
  · obtain rfl := Option.some.inj h; exact tok_of Try.underlying78 ti78 rfl rfl (fun _ => cm78)
  · obtain rfl := Option.some.inj h; exact tok_of Try.underlying80 ti80 rfl rfl (fun _ => cm80)
  · obtain rfl := Option.some.inj h; exact tok_of Try.underlying82 ti82 rfl rfl (fun h => absurd rfl h)
  · obtain rfl := Option.some.inj h; exact tok_of Try.underlying83 ti83 rfl rfl (fun h => absurd rfl h)
  · obtain rfl := Option.some.inj h; exact tok_of Try.underlying84 ti84 rfl rfl (fun h => absurd rfl h)
  · obtain rfl := Option.some.inj h; exact tok_of Try.underlying94 ti94 rfl rfl (fun _ => cm94)
  · obtain rfl := Option.some.inj h; exact tok_of Try.underlying95 ti95 rfl rfl (fun _ => cm95)
  · obtain rfl := Option.some.inj h; exact tok_of Try.underlying97 ti97 rfl rfl (fun _ => cm97)
  · obtain rfl := Option.some.inj h; exact tok_of Try.underlying106 ti106 rfl rfl (fun h => absurd rfl h)
  · obtain rfl := Option.some.inj h; exact tok_of Try.underlying107 ti107 rfl rfl (fun h => absurd rfl h)
  · obtain rfl := Option.some.inj h; exact tok_of Try.underlying108 ti108 rfl rfl (fun h => absurd rfl h)
  · obtain rfl := Option.some.inj h; exact tok_of Try.underlying112 ti112 rfl rfl (fun h => absurd rfl h)
  · obtain rfl := Option.some.inj h; exact tok_of Try.underlying113 ti113 rfl rfl (fun h => absurd rfl h)
  · obtain rfl := Option.some.inj h; exact tok_of Try.underlying116 ti116 rfl rfl (fun h => absurd rfl h)
  · obtain rfl := Option.some.inj h; exact tok_of Try.underlying119 ti119 rfl rfl (fun _ => cm119)
  · obtain rfl := Option.some.inj h; exact tok_of Try.underlying120 ti120 rfl rfl (fun _ => cm120)
  · obtain rfl := Option.some.inj h; exact tok_of Try.underlying128 ti128 rfl rfl (fun h => absurd rfl h)
  · obtain rfl := Option.some.inj h; exact tok_of Try.underlying145 ti145 rfl rfl (fun h => absurd rfl h)
  · obtain rfl := Option.some.inj h; exact tok_of Try.underlying147 ti147 rfl rfl (fun h => absurd rfl h)
  · obtain rfl := Option.some.inj h; exact tok_of Try.underlying148 ti148 rfl rfl (fun h => absurd rfl h)
  · obtain rfl := Option.some.inj h; exact tok_of Try.underlying151 ti151 rfl rfl (fun _ => cm151)
  · obtain rfl := Option.some.inj h; exact tok_of Try.underlying152 ti152 rfl rfl (fun h => absurd rfl h)
  · obtain rfl := Option.some.inj h; exact tok_of Try.underlying153 ti153 rfl rfl (fun h => absurd rfl h)
  · obtain rfl := Option.some.inj h; exact tok_of Try.underlying154 ti154 rfl rfl (fun h => absurd rfl h)
  · obtain rfl := Option.some.inj h; exact tok_of Try.underlying163 ti163 rfl rfl (fun h => absurd rfl h)
  · obtain rfl := Option.some.inj h; exact tok_of Try.underlying166 ti166 rfl rfl (fun h => absurd rfl h)
  · obtain rfl := Option.some.inj h; exact tok_of Try.underlying173 ti173 rfl rfl (fun h => absurd rfl h)
  · obtain rfl := Option.some.inj h; exact tok_of Try.underlying175 ti175 rfl rfl (fun h => absurd rfl h)
  · obtain rfl := Option.some.inj h; exact tok_of Try.underlying179 ti179 rfl rfl (fun h => absurd rfl h)
  · obtain rfl := Option.some.inj h; exact tok_of Try.underlying183 ti183 rfl rfl (fun h => absurd rfl h)
  · obtain rfl := Option.some.inj h; exact tok_of Try.underlying185 ti185 rfl rfl (fun h => absurd rfl h)
  · obtain rfl := Option.some.inj h; exact tok_of Try.underlying188 ti188 rfl rfl (fun h => absurd rfl h)
  · obtain rfl := Option.some.inj h; exact tok_of Try.underlying189 ti189 rfl rfl (fun h => absurd rfl h)
  · obtain rfl := Option.some.inj h; exact tok_of Try.underlying193 ti193 rfl rfl (fun h => absurd rfl h)
  · obtain rfl := Option.some.inj h; exact tok_of Try.underlying194 ti194 rfl rfl (fun h => absurd rfl h)
  · obtain rfl := Option.some.inj h; exact tok_of Try.underlying196 ti196 rfl rfl (fun h => absurd rfl h)
  · obtain rfl := Option.some.inj h; exact tok_of Try.underlying197 ti197 rfl rfl (fun h => absurd rfl h)
  · obtain rfl := Option.some.inj h; exact tok_of Try.underlying198 ti198 rfl rfl (fun h => absurd rfl h)
  · obtain rfl := Option.some.inj h; exact tok_of Try.underlying199 ti199 rfl rfl (fun h => absurd rfl h)
  · obtain rfl := Option.some.inj h; exact tok_of Try.underlying200 ti200 rfl rfl (fun h => absurd rfl h)
  · cases h

theorem mixed : Try.prog.follows .mixedOrders = true := by kernel_rfl
noncomputable abbrev env (N : Nat) (l : List (Ent Try.prog)) (live : List (Nat × List Nat) := []) (ord : List (Nat × DMode) := []) : Env := mkEnv Try.prog T N l live ord
theorem env_ok {N : Nat} {l : List (Ent Try.prog)} {live : List (Nat × List Nat)} {ord : List (Nat × DMode)} : EnvOk Try.prog (env N l live ord) := mkEnv_ok T_ok mixed
theorem Try.own : ownKnob Try.prog.godebug = none := by kernel_rfl
theorem Try.laidOut : laidOutB Try.prog = true := by kernel_rfl
end Go.Proofs.Ythcgbbhgjeceeaa
