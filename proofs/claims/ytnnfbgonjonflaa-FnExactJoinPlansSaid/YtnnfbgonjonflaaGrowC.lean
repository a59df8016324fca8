/- The library's Grow over slices of ints. -/
import Derived.Test.YtnnfbgonjonflaaChecked
import Derived.Test.YtnnfbgonjonflaaEng26
import Derived.Test.YtnnfbgonjonflaaGlass
set_option linter.unusedSimpArgs false
set_option linter.unusedVariables false
set_option maxRecDepth 100000
set_option maxHeartbeats 4000000
namespace Go.Proofs.Ytnnfbgonjonflaa
open Go Go.Eng
open Go.Shelf Go.Proofs
def layGrow_ren : Go.Shelf.Ren := ⟨fun | 4 => 190 | n => n, fun | 22 => 25 | 25 => 3 | 3 => 3 | 4 => 4 | 9 => 9 | 20 => 20 | 0 => 0 | n => n, fun | n => n⟩
theorem layGrow : Go.Proofs.Lays8.n4 Try.prog layGrow_ren := {
  mixed := by kernel_rfl
  f4 := ⟨Try.f190.name, by decide, Try.func190.trans (congrArg some (by kernel_rfl))⟩
  t0 := Try.underlying0
  a0 := Try.isAgg0
  z0 := Try.sizeOf0
  v0 := Try.zeroValue0
  t3 := Try.underlying3
  a3 := Try.isAgg3
  z3 := Try.sizeOf3
  v3 := Try.zeroValue3
  t4 := Try.underlying4
  a4 := Try.isAgg4
  z4 := Try.sizeOf4
  v4 := Try.zeroValue4
  t9 := Try.underlying9
  a9 := Try.isAgg9
  z9 := Try.sizeOf9
  v9 := Try.zeroValue9
  t20 := Try.underlying20
  a20 := Try.isAgg20
  z20 := Try.sizeOf20
  v20 := Try.zeroValue20
  t22 := Try.underlying25
  a22 := Try.isAgg25
  z22 := Try.sizeOf25
  v22 := Try.zeroValue25 }

theorem grow_ok : SoundW Try.prog 190 growSem := by
  obtain ⟨_, i, h1, h2, h3, ⟨v, h4, h5⟩, _⟩ := T_ok 3 y3 rfl
  exact grow_of layGrow i h1 h4 h5 h2 h3
end Go.Proofs.Ytnnfbgonjonflaa
