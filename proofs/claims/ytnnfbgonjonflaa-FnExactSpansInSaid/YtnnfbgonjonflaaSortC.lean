/- The library's sort and compact over slices of ints. -/
import Derived.Test.YtnnfbgonjonflaaChecked
import Derived.Shelf.SortM.Plain
import Derived.Shelf.SortM.SortNone
import Derived.Shelf.SlicesE.Compact
import Derived.Shelf.SlGeneric
import Derived.Ground.SlgmProg
import Derived.Ground.SlgnProg
import Derived.Test.YtnnfbgonjonflaaEng20
import Derived.Test.YtnnfbgonjonflaaGlass
set_option linter.unusedSimpArgs false
set_option linter.unusedVariables false
set_option maxRecDepth 100000
set_option maxHeartbeats 4000000
namespace Go.Proofs.Ytnnfbgonjonflaa
open Go Go.Eng
open Go.Shelf Go.Proofs
def laySort_ren : Go.Shelf.Ren := ⟨fun | 5 => 101 | 8 => 188 | 7 => 187 | 19 => 233 | 20 => 234 | 10 => 224 | 11 => 225 | 12 => 226 | 13 => 227 | 14 => 228 | 15 => 229 | 16 => 230 | 17 => 231 | 18 => 232 | 30 => 242 | 31 => 243 | 32 => 244 | 33 => 245 | 34 => 246 | 35 => 247 | 40 => 249 | n => n, fun | 23 => 25 | 25 => 3 | 3 => 3 | 32 => 196 | 22 => 25 | 0 => 0 | 44 => 228 | 46 => 148 | 4 => 4 | 36 => 222 | 35 => 221 | 41 => 38 | 5 => 5 | 9 => 9 | 53 => 232 | 57 => 236 | 63 => 238 | 64 => 178 | n => n, fun | n => n⟩
theorem laySort : Go.Proofs.SlLaysM.n5 Try.prog laySort_ren := {
  mixed := by kernel_rfl
  f5 := ⟨Try.f101.name, by decide, Try.func101.trans (congrArg some (by kernel_rfl))⟩
  f7 := ⟨Try.f187.name, by decide, Try.func187.trans (congrArg some (by kernel_rfl))⟩
  f8 := Try.func188.trans (congrArg some (by kernel_rfl))
  f10 := ⟨Try.f224.name, by decide, Try.func224.trans (congrArg some (by kernel_rfl))⟩
  f11 := ⟨Try.f225.name, by decide, Try.func225.trans (congrArg some (by kernel_rfl))⟩
  f12 := ⟨Try.f226.name, by decide, Try.func226.trans (congrArg some (by kernel_rfl))⟩
  f13 := ⟨Try.f227.name, by decide, Try.func227.trans (congrArg some (by kernel_rfl))⟩
  f14 := ⟨Try.f228.name, by decide, Try.func228.trans (congrArg some (by kernel_rfl))⟩
  f15 := ⟨Try.f229.name, by decide, Try.func229.trans (congrArg some (by kernel_rfl))⟩
  f16 := ⟨Try.f230.name, by decide, Try.func230.trans (congrArg some (by kernel_rfl))⟩
  f17 := ⟨Try.f231.name, by decide, Try.func231.trans (congrArg some (by kernel_rfl))⟩
  f18 := ⟨Try.f232.name, by decide, Try.func232.trans (congrArg some (by kernel_rfl))⟩
  f19 := Try.func233.trans (congrArg some (by kernel_rfl))
  f20 := Try.func234.trans (congrArg some (by kernel_rfl))
  f30 := ⟨Try.f242.name, by decide, Try.func242.trans (congrArg some (by kernel_rfl))⟩
  f31 := Try.func243.trans (congrArg some (by kernel_rfl))
  f32 := Try.func244.trans (congrArg some (by kernel_rfl))
  f33 := ⟨Try.f245.name, by decide, Try.func245.trans (congrArg some (by kernel_rfl))⟩
  f34 := ⟨Try.f246.name, by decide, Try.func246.trans (congrArg some (by kernel_rfl))⟩
  f35 := ⟨Try.f247.name, by decide, Try.func247.trans (congrArg some (by kernel_rfl))⟩
  f40 := ⟨Try.f249.name, by decide, Try.func249.trans (congrArg some (by kernel_rfl))⟩
  t0 := Try.underlying0
  a0 := Try.isAgg0
  z0 := Try.sizeOf0
  v0 := Try.zeroValue0
  t3 := Try.underlying3
  a3 := Try.isAgg3
  z3 := Try.sizeOf3
  v3 := Try.zeroValue3
  t4 := Try.underlying4
  a4 := Try.isAgg4
  z4 := Try.sizeOf4
  v4 := Try.zeroValue4
  t5 := Try.underlying5
  a5 := Try.isAgg5
  z5 := Try.sizeOf5
  v5 := Try.zeroValue5
  t9 := Try.underlying9
  a9 := Try.isAgg9
  z9 := Try.sizeOf9
  v9 := Try.zeroValue9
  t22 := Try.underlying25
  a22 := Try.isAgg25
  z22 := Try.sizeOf25
  v22 := Try.zeroValue25
  t23 := Try.underlying25
  a23 := Try.isAgg25
  z23 := Try.sizeOf25
  v23 := Try.zeroValue25
  t25 := Try.underlying3
  a25 := Try.isAgg3
  z25 := Try.sizeOf3
  v25 := Try.zeroValue3
  t32 := Try.underlying196
  a32 := Try.isAgg196
  z32 := Try.sizeOf196
  v32 := Try.zeroValue196
  t35 := Try.underlying221
  a35 := Try.isAgg221
  z35 := Try.sizeOf221
  v35 := Try.zeroValue221
  t36 := Try.underlying222
  a36 := Try.isAgg222
  z36 := Try.sizeOf222
  v36 := Try.zeroValue222
  t41 := Try.underlying38
  a41 := Try.isAgg38
  z41 := Try.sizeOf38
  v41 := Try.zeroValue38
  t44 := Try.underlying228
  a44 := Try.isAgg228
  z44 := Try.sizeOf228
  v44 := Try.zeroValue228
  t46 := Try.underlying148
  a46 := Try.isAgg148
  z46 := Try.sizeOf148
  v46 := Try.zeroValue148
  t53 := Try.underlying232
  a53 := Try.isAgg232
  z53 := Try.sizeOf232
  v53 := Try.zeroValue232
  t57 := Try.underlying236
  a57 := Try.isAgg236
  z57 := Try.sizeOf236
  v57 := Try.zeroValue236
  t63 := Try.underlying238
  a63 := Try.isAgg238
  z63 := Try.sizeOf238
  v63 := Try.zeroValue238
  t64 := Try.underlying178
  a64 := Try.isAgg178
  z64 := Try.sizeOf178
  v64 := Try.zeroValue178 }
def layComp_ren : Go.Shelf.Ren := ⟨fun | 43 => 102 | n => n, fun | 22 => 25 | 23 => 3 | 3 => 3 | 4 => 4 | 0 => 0 | n => n, fun | n => n⟩
theorem layComp : Go.Proofs.SlLaysE.n43 Try.prog layComp_ren := {
  mixed := by kernel_rfl
  f43 := ⟨Try.f102.name, by decide, Try.func102.trans (congrArg some (by kernel_rfl))⟩
  t0 := Try.underlying0
  a0 := Try.isAgg0
  z0 := Try.sizeOf0
  v0 := Try.zeroValue0
  t3 := Try.underlying3
  a3 := Try.isAgg3
  z3 := Try.sizeOf3
  v3 := Try.zeroValue3
  t4 := Try.underlying4
  a4 := Try.isAgg4
  z4 := Try.sizeOf4
  v4 := Try.zeroValue4
  t22 := Try.underlying25
  a22 := Try.isAgg25
  z22 := Try.sizeOf25
  v22 := Try.zeroValue25
  a23 := Try.isAgg3
  z23 := Try.sizeOf3 }

theorem sort_ok : SoundW Try.prog 101 (rowSem sortG none sortTop) :=
  sort_sound (fun blk off cap zs w hH hb hz => AnyM.slices_Sort_int laySort blk off cap zs w hH hb hz) (fun p cap w => AnyM.slices_Sort_int_none laySort p cap w)
theorem comp_ok : SoundW Try.prog 102 (rowSem compG (some fun l => (compL l).length) sortTop) :=
  comp_sound (fun blk off cap d w hH h1 h2 => AnyE.slices_Compact layComp (Value.int .i64) (fun _ => rfl) (EqlAt.intD _ _ .i64) (NeqAt.intD _ _ .i64) 0 (fun _ => by kernel_rfl) blk off cap d w hH h1 h2) (fun a w => by
    go_enter Try.func102, Try.ntmps102
    go_wp2
    go_ret
    exact ⟨rfl, rfl⟩)
end Go.Proofs.Ytnnfbgonjonflaa
