/-
  No cell of these rows narrows 'for every input' (looked for: loops, veiled, ifaces, maps, wideKeys, modest, calm, conditions, laid).
  DERIVED. THE GIVEN ROWS OF THIS SEAT. 11 by the template 'for every input the law returns true; each argument reads behind the call as it read before'; 0 by the template 'total and deterministic' (their statements: YtnnfbgonjonflaaTotals.lean).
  GIVEN WITH THE SEED: the statements are not yours to turn. If you find one false, say at which input.
  Laid BY PROGRAM, IN A SANDBOX (cutbox-rows.mjs): the forced cells as the released guide's own fill.sh prints them over the translation 9f65fd3ea23da0b7… (all of the seat's roots in one cut). By AI agents, Wed Nov 11 2026. No macro, syntax, notation, axiom, sorry.
-/
import Derived.Test.YtnnfbgonjonflaaChecked
import GoSem.Claim
import GoSem.ClaimJoined
import GoSem.ClaimMapViews
import Derived.JoinedTies
import Derived.KernelRfl
namespace Go.Proofs.Ytnnfbgonjonflaa
/- THE CELL 'sum', in the pinned program and in every row, IS THE sha256 OF THE DUMP (.gsa) THAT YtnnfbgonjonflaaProg.lean LOADS. Nothing in Lean hashes anything: it is a label: what it is worth is what the hold of that sum in a sandbox is worth. -/
noncomputable def Try.pinned : Pinned := { name := "ytnnfbgonjonflaa", sum := "9f65fd3ea23da0b7729312b60f4014cac8b326d329736a1a0b6f17ffdebddccf", checked := Try.checked }
namespace Rows
def none {H : Type} : Left H := { results := [], args := [] }

/-- 'laws.FnExactSpansIn': WHATEVER THE INPUT: true; the input reads as it did. -/
def fnExactSpansInSpec : ChangeSpec := { name := "fnExactSpansIn", fn := fun _ => fun
  | [d1, d2] => { results := [.lit (.bool true)], args := [d1, d2] }
  | _ => none }
def fnExactSpansInRow : OpenClaim := { program := "ytnnfbgonjonflaa", sum := "9f65fd3ea23da0b7729312b60f4014cac8b326d329736a1a0b6f17ffdebddccf", func := "loop.example/g01187/laws.FnExactSpansIn", spec := "fnExactSpansIn", unfollowed := true, recurses := true, plainKeys := false, apart := false }
def FnExactSpansInSaid : Prop := fnExactSpansInRow.holds Try.pinned (OpenSpec.ofChange fnExactSpansInSpec)

/-- ITS FALSE NEIGHBOUR: 'it returns false'. Refute it at one input. -/
def fnExactSpansInWrong : ChangeSpec := { name := "fnExactSpansIn", fn := fun _ => fun
  | [d1, d2] => { results := [.lit (.bool false)], args := [d1, d2] }
  | _ => none }
def FnExactSpansInWrongFalsely : Prop := fnExactSpansInRow.holds Try.pinned (OpenSpec.ofChange fnExactSpansInWrong)

/-- 'laws.FnExactJoinPlans': WHATEVER THE INPUT: true; the input reads as it did. -/
def fnExactJoinPlansSpec : ChangeSpec := { name := "fnExactJoinPlans", fn := fun _ => fun
  | [d1, d2, d3] => { results := [.lit (.bool true)], args := [d1, d2, d3] }
  | _ => none }
def fnExactJoinPlansRow : OpenClaim := { program := "ytnnfbgonjonflaa", sum := "9f65fd3ea23da0b7729312b60f4014cac8b326d329736a1a0b6f17ffdebddccf", func := "loop.example/g01187/laws.FnExactJoinPlans", spec := "fnExactJoinPlans", unfollowed := true, recurses := true, plainKeys := false, apart := false }
def FnExactJoinPlansSaid : Prop := fnExactJoinPlansRow.holds Try.pinned (OpenSpec.ofChange fnExactJoinPlansSpec)

/-- ITS FALSE NEIGHBOUR: 'it returns false'. Refute it at one input. -/
def fnExactJoinPlansWrong : ChangeSpec := { name := "fnExactJoinPlans", fn := fun _ => fun
  | [d1, d2, d3] => { results := [.lit (.bool false)], args := [d1, d2, d3] }
  | _ => none }
def FnExactJoinPlansWrongFalsely : Prop := fnExactJoinPlansRow.holds Try.pinned (OpenSpec.ofChange fnExactJoinPlansWrong)

/-- 'laws.FnExactFewestMealSets': WHATEVER THE INPUT: true; the input reads as it did. -/
def fnExactFewestMealSetsSpec : ChangeSpec := { name := "fnExactFewestMealSets", fn := fun _ => fun
  | [d1, d2] => { results := [.lit (.bool true)], args := [d1, d2] }
  | _ => none }
def fnExactFewestMealSetsRow : OpenClaim := { program := "ytnnfbgonjonflaa", sum := "9f65fd3ea23da0b7729312b60f4014cac8b326d329736a1a0b6f17ffdebddccf", func := "loop.example/g01187/laws.FnExactFewestMealSets", spec := "fnExactFewestMealSets", unfollowed := true, recurses := true, plainKeys := false, apart := false }
def FnExactFewestMealSetsSaid : Prop := fnExactFewestMealSetsRow.holds Try.pinned (OpenSpec.ofChange fnExactFewestMealSetsSpec)

/-- ITS FALSE NEIGHBOUR: 'it returns false'. Refute it at one input. -/
def fnExactFewestMealSetsWrong : ChangeSpec := { name := "fnExactFewestMealSets", fn := fun _ => fun
  | [d1, d2] => { results := [.lit (.bool false)], args := [d1, d2] }
  | _ => none }
def FnExactFewestMealSetsWrongFalsely : Prop := fnExactFewestMealSetsRow.holds Try.pinned (OpenSpec.ofChange fnExactFewestMealSetsWrong)

/-- 'laws.FnExactCountPlans': WHATEVER THE INPUT: true; the input reads as it did. -/
def fnExactCountPlansSpec : ChangeSpec := { name := "fnExactCountPlans", fn := fun _ => fun
  | [d1, d2, d3] => { results := [.lit (.bool true)], args := [d1, d2, d3] }
  | _ => none }
def fnExactCountPlansRow : OpenClaim := { program := "ytnnfbgonjonflaa", sum := "9f65fd3ea23da0b7729312b60f4014cac8b326d329736a1a0b6f17ffdebddccf", func := "loop.example/g01187/laws.FnExactCountPlans", spec := "fnExactCountPlans", recurses := true, plainKeys := false, apart := false }
def FnExactCountPlansSaid : Prop := fnExactCountPlansRow.holds Try.pinned (OpenSpec.ofChange fnExactCountPlansSpec)

/-- ITS FALSE NEIGHBOUR: 'it returns false'. Refute it at one input. -/
def fnExactCountPlansWrong : ChangeSpec := { name := "fnExactCountPlans", fn := fun _ => fun
  | [d1, d2, d3] => { results := [.lit (.bool false)], args := [d1, d2, d3] }
  | _ => none }
def FnExactCountPlansWrongFalsely : Prop := fnExactCountPlansRow.holds Try.pinned (OpenSpec.ofChange fnExactCountPlansWrong)

/-- 'laws.FnExactIsWonGame': WHATEVER THE INPUT: true; the input reads as it did. -/
def fnExactIsWonGameSpec : ChangeSpec := { name := "fnExactIsWonGame", fn := fun _ => fun
  | [d1, d2, d3, d4] => { results := [.lit (.bool true)], args := [d1, d2, d3, d4] }
  | _ => none }
def fnExactIsWonGameRow : OpenClaim := { program := "ytnnfbgonjonflaa", sum := "9f65fd3ea23da0b7729312b60f4014cac8b326d329736a1a0b6f17ffdebddccf", func := "loop.example/g01187/laws.FnExactIsWonGame", spec := "fnExactIsWonGame", unfollowed := true, recurses := true, plainKeys := false, apart := false }
def FnExactIsWonGameSaid : Prop := fnExactIsWonGameRow.holds Try.pinned (OpenSpec.ofChange fnExactIsWonGameSpec)

/-- ITS FALSE NEIGHBOUR: 'it returns false'. Refute it at one input. -/
def fnExactIsWonGameWrong : ChangeSpec := { name := "fnExactIsWonGame", fn := fun _ => fun
  | [d1, d2, d3, d4] => { results := [.lit (.bool false)], args := [d1, d2, d3, d4] }
  | _ => none }
def FnExactIsWonGameWrongFalsely : Prop := fnExactIsWonGameRow.holds Try.pinned (OpenSpec.ofChange fnExactIsWonGameWrong)

/-- 'laws.FnExactWonGoals': WHATEVER THE INPUT: true; the input reads as it did. -/
def fnExactWonGoalsSpec : ChangeSpec := { name := "fnExactWonGoals", fn := fun _ => fun
  | [d1, d2] => { results := [.lit (.bool true)], args := [d1, d2] }
  | _ => none }
def fnExactWonGoalsRow : OpenClaim := { program := "ytnnfbgonjonflaa", sum := "9f65fd3ea23da0b7729312b60f4014cac8b326d329736a1a0b6f17ffdebddccf", func := "loop.example/g01187/laws.FnExactWonGoals", spec := "fnExactWonGoals", unfollowed := true, recurses := true, plainKeys := false, apart := false }
def FnExactWonGoalsSaid : Prop := fnExactWonGoalsRow.holds Try.pinned (OpenSpec.ofChange fnExactWonGoalsSpec)

/-- ITS FALSE NEIGHBOUR: 'it returns false'. Refute it at one input. -/
def fnExactWonGoalsWrong : ChangeSpec := { name := "fnExactWonGoals", fn := fun _ => fun
  | [d1, d2] => { results := [.lit (.bool false)], args := [d1, d2] }
  | _ => none }
def FnExactWonGoalsWrongFalsely : Prop := fnExactWonGoalsRow.holds Try.pinned (OpenSpec.ofChange fnExactWonGoalsWrong)

/-- 'laws.FnExactWinSets': WHATEVER THE INPUT: true; the input reads as it did. -/
def fnExactWinSetsSpec : ChangeSpec := { name := "fnExactWinSets", fn := fun _ => fun
  | [d1, d2, d3, d4] => { results := [.lit (.bool true)], args := [d1, d2, d3, d4] }
  | _ => none }
def fnExactWinSetsRow : OpenClaim := { program := "ytnnfbgonjonflaa", sum := "9f65fd3ea23da0b7729312b60f4014cac8b326d329736a1a0b6f17ffdebddccf", func := "loop.example/g01187/laws.FnExactWinSets", spec := "fnExactWinSets", unfollowed := true, recurses := true, plainKeys := false, apart := false }
def FnExactWinSetsSaid : Prop := fnExactWinSetsRow.holds Try.pinned (OpenSpec.ofChange fnExactWinSetsSpec)

/-- ITS FALSE NEIGHBOUR: 'it returns false'. Refute it at one input. -/
def fnExactWinSetsWrong : ChangeSpec := { name := "fnExactWinSets", fn := fun _ => fun
  | [d1, d2, d3, d4] => { results := [.lit (.bool false)], args := [d1, d2, d3, d4] }
  | _ => none }
def FnExactWinSetsWrongFalsely : Prop := fnExactWinSetsRow.holds Try.pinned (OpenSpec.ofChange fnExactWinSetsWrong)

/-- 'laws.FnKitchens': WHATEVER THE INPUT: true; the input reads as it did. -/
def fnKitchensSpec : ChangeSpec := { name := "fnKitchens", fn := fun _ => fun
  | [d] => { results := [.lit (.bool true)], args := [d] }
  | _ => none }
def fnKitchensRow : OpenClaim := { program := "ytnnfbgonjonflaa", sum := "9f65fd3ea23da0b7729312b60f4014cac8b326d329736a1a0b6f17ffdebddccf", func := "loop.example/g01187/laws.FnKitchens", spec := "fnKitchens", plainKeys := false, apart := false }
def FnKitchensSaid : Prop := fnKitchensRow.holds Try.pinned (OpenSpec.ofChange fnKitchensSpec)

/-- ITS FALSE NEIGHBOUR: 'it returns false'. Refute it at one input. -/
def fnKitchensWrong : ChangeSpec := { name := "fnKitchens", fn := fun _ => fun
  | [d] => { results := [.lit (.bool false)], args := [d] }
  | _ => none }
def FnKitchensWrongFalsely : Prop := fnKitchensRow.holds Try.pinned (OpenSpec.ofChange fnKitchensWrong)

/-- 'laws.FnVessels': WHATEVER THE INPUT: true; the input reads as it did. -/
def fnVesselsSpec : ChangeSpec := { name := "fnVessels", fn := fun _ => fun
  | [d] => { results := [.lit (.bool true)], args := [d] }
  | _ => none }
def fnVesselsRow : OpenClaim := { program := "ytnnfbgonjonflaa", sum := "9f65fd3ea23da0b7729312b60f4014cac8b326d329736a1a0b6f17ffdebddccf", func := "loop.example/g01187/laws.FnVessels", spec := "fnVessels", unfollowed := true, recurses := true, plainKeys := false, apart := false }
def FnVesselsSaid : Prop := fnVesselsRow.holds Try.pinned (OpenSpec.ofChange fnVesselsSpec)

/-- ITS FALSE NEIGHBOUR: 'it returns false'. Refute it at one input. -/
def fnVesselsWrong : ChangeSpec := { name := "fnVessels", fn := fun _ => fun
  | [d] => { results := [.lit (.bool false)], args := [d] }
  | _ => none }
def FnVesselsWrongFalsely : Prop := fnVesselsRow.holds Try.pinned (OpenSpec.ofChange fnVesselsWrong)

/-- 'laws.FnPlans': WHATEVER THE INPUT: true; the input reads as it did. -/
def fnPlansSpec : ChangeSpec := { name := "fnPlans", fn := fun _ => fun
  | [d] => { results := [.lit (.bool true)], args := [d] }
  | _ => none }
def fnPlansRow : OpenClaim := { program := "ytnnfbgonjonflaa", sum := "9f65fd3ea23da0b7729312b60f4014cac8b326d329736a1a0b6f17ffdebddccf", func := "loop.example/g01187/laws.FnPlans", spec := "fnPlans", unfollowed := true, recurses := true, plainKeys := false, apart := false }
def FnPlansSaid : Prop := fnPlansRow.holds Try.pinned (OpenSpec.ofChange fnPlansSpec)

/-- ITS FALSE NEIGHBOUR: 'it returns false'. Refute it at one input. -/
def fnPlansWrong : ChangeSpec := { name := "fnPlans", fn := fun _ => fun
  | [d] => { results := [.lit (.bool false)], args := [d] }
  | _ => none }
def FnPlansWrongFalsely : Prop := fnPlansRow.holds Try.pinned (OpenSpec.ofChange fnPlansWrong)

/-- 'laws.FnFillings': WHATEVER THE INPUT: true; the input reads as it did. -/
def fnFillingsSpec : ChangeSpec := { name := "fnFillings", fn := fun _ => fun
  | [d] => { results := [.lit (.bool true)], args := [d] }
  | _ => none }
def fnFillingsRow : OpenClaim := { program := "ytnnfbgonjonflaa", sum := "9f65fd3ea23da0b7729312b60f4014cac8b326d329736a1a0b6f17ffdebddccf", func := "loop.example/g01187/laws.FnFillings", spec := "fnFillings", unfollowed := true, recurses := true, plainKeys := false, apart := false }
def FnFillingsSaid : Prop := fnFillingsRow.holds Try.pinned (OpenSpec.ofChange fnFillingsSpec)

/-- ITS FALSE NEIGHBOUR: 'it returns false'. Refute it at one input. -/
def fnFillingsWrong : ChangeSpec := { name := "fnFillings", fn := fun _ => fun
  | [d] => { results := [.lit (.bool false)], args := [d] }
  | _ => none }
def FnFillingsWrongFalsely : Prop := fnFillingsRow.holds Try.pinned (OpenSpec.ofChange fnFillingsWrong)

/- THE SECOND FORM. 'bulk': how many values and letters a reading holds, each counted each time it is reached (what is shared counts as often as it is met; a slice's spare places count too). A statement '..UptoSaid' is the law's where the arguments, and the package variables that the reading takes, are together of bulk at most 1048576: NARROWER than '..Said'. Prove '..Said' where nothing that the law and all that it calls make is longer than what came in: it says more and counts as full. Else prove '..UptoSaid'. A law counts once. -/
mutual
def uptoBulk {H : Type} : DataW H → Nat
  | .lit (.string bytes) => bytes.length + 1
  | .lit _ => 1
  | .nil => 1
  | .ptr d => uptoBulk d + 1
  | .slice elems spare => uptoBulkAll elems + uptoBulkAll spare + 1
  | .agg parts => uptoBulkAll parts + 1
  | .iface _ d => uptoBulk d + 1
  | .map entries => uptoBulkEntries entries + 1
  | .held _ => 1
def uptoBulkAll {H : Type} : List (DataW H) → Nat
  | [] => 0
  | d :: r => uptoBulk d + uptoBulkAll r
def uptoBulkEntries {H : Type} : List (Lit × DataW H) → Nat
  | [] => 0
  | x :: r => uptoBulkEntry x + uptoBulkEntries r
def uptoBulkEntry {H : Type} : Lit × DataW H → Nat
  | (.string bytes, d) => bytes.length + uptoBulk d + 1
  | (_, d) => uptoBulk d + 1
 end
def uptoSmall : (H : Type) → List (DataW H) → Bool := fun _ ds => decide (uptoBulkAll ds ≤ 1048576)
def OpenSpec.upto (s : _root_.Go.ChangeSpec) : _root_.Go.OpenSpec := { _root_.Go.OpenSpec.ofChange s with cond := some uptoSmall }

/-- 'laws.FnExactSpansIn', WHERE WHAT IT READS IS OF BULK AT MOST 1048576: true; the input reads as it did. -/
def fnExactSpansInUptoRow : OpenClaim := { program := "ytnnfbgonjonflaa", sum := "9f65fd3ea23da0b7729312b60f4014cac8b326d329736a1a0b6f17ffdebddccf", func := "loop.example/g01187/laws.FnExactSpansIn", spec := "fnExactSpansIn", unfollowed := true, recurses := true, plainKeys := false, apart := false, narrowed := true }
def FnExactSpansInUptoSaid : Prop := fnExactSpansInUptoRow.holds Try.pinned (OpenSpec.upto fnExactSpansInSpec)

/-- 'laws.FnExactJoinPlans', WHERE WHAT IT READS IS OF BULK AT MOST 1048576: true; the input reads as it did. -/
def fnExactJoinPlansUptoRow : OpenClaim := { program := "ytnnfbgonjonflaa", sum := "9f65fd3ea23da0b7729312b60f4014cac8b326d329736a1a0b6f17ffdebddccf", func := "loop.example/g01187/laws.FnExactJoinPlans", spec := "fnExactJoinPlans", unfollowed := true, recurses := true, plainKeys := false, apart := false, narrowed := true }
def FnExactJoinPlansUptoSaid : Prop := fnExactJoinPlansUptoRow.holds Try.pinned (OpenSpec.upto fnExactJoinPlansSpec)

/-- 'laws.FnExactFewestMealSets', WHERE WHAT IT READS IS OF BULK AT MOST 1048576: true; the input reads as it did. -/
def fnExactFewestMealSetsUptoRow : OpenClaim := { program := "ytnnfbgonjonflaa", sum := "9f65fd3ea23da0b7729312b60f4014cac8b326d329736a1a0b6f17ffdebddccf", func := "loop.example/g01187/laws.FnExactFewestMealSets", spec := "fnExactFewestMealSets", unfollowed := true, recurses := true, plainKeys := false, apart := false, narrowed := true }
def FnExactFewestMealSetsUptoSaid : Prop := fnExactFewestMealSetsUptoRow.holds Try.pinned (OpenSpec.upto fnExactFewestMealSetsSpec)

/-- 'laws.FnExactCountPlans', WHERE WHAT IT READS IS OF BULK AT MOST 1048576: true; the input reads as it did. -/
def fnExactCountPlansUptoRow : OpenClaim := { program := "ytnnfbgonjonflaa", sum := "9f65fd3ea23da0b7729312b60f4014cac8b326d329736a1a0b6f17ffdebddccf", func := "loop.example/g01187/laws.FnExactCountPlans", spec := "fnExactCountPlans", recurses := true, plainKeys := false, apart := false, narrowed := true }
def FnExactCountPlansUptoSaid : Prop := fnExactCountPlansUptoRow.holds Try.pinned (OpenSpec.upto fnExactCountPlansSpec)

/-- 'laws.FnExactIsWonGame', WHERE WHAT IT READS IS OF BULK AT MOST 1048576: true; the input reads as it did. -/
def fnExactIsWonGameUptoRow : OpenClaim := { program := "ytnnfbgonjonflaa", sum := "9f65fd3ea23da0b7729312b60f4014cac8b326d329736a1a0b6f17ffdebddccf", func := "loop.example/g01187/laws.FnExactIsWonGame", spec := "fnExactIsWonGame", unfollowed := true, recurses := true, plainKeys := false, apart := false, narrowed := true }
def FnExactIsWonGameUptoSaid : Prop := fnExactIsWonGameUptoRow.holds Try.pinned (OpenSpec.upto fnExactIsWonGameSpec)

/-- 'laws.FnExactWonGoals', WHERE WHAT IT READS IS OF BULK AT MOST 1048576: true; the input reads as it did. -/
def fnExactWonGoalsUptoRow : OpenClaim := { program := "ytnnfbgonjonflaa", sum := "9f65fd3ea23da0b7729312b60f4014cac8b326d329736a1a0b6f17ffdebddccf", func := "loop.example/g01187/laws.FnExactWonGoals", spec := "fnExactWonGoals", unfollowed := true, recurses := true, plainKeys := false, apart := false, narrowed := true }
def FnExactWonGoalsUptoSaid : Prop := fnExactWonGoalsUptoRow.holds Try.pinned (OpenSpec.upto fnExactWonGoalsSpec)

/-- 'laws.FnExactWinSets', WHERE WHAT IT READS IS OF BULK AT MOST 1048576: true; the input reads as it did. -/
def fnExactWinSetsUptoRow : OpenClaim := { program := "ytnnfbgonjonflaa", sum := "9f65fd3ea23da0b7729312b60f4014cac8b326d329736a1a0b6f17ffdebddccf", func := "loop.example/g01187/laws.FnExactWinSets", spec := "fnExactWinSets", unfollowed := true, recurses := true, plainKeys := false, apart := false, narrowed := true }
def FnExactWinSetsUptoSaid : Prop := fnExactWinSetsUptoRow.holds Try.pinned (OpenSpec.upto fnExactWinSetsSpec)

/-- 'laws.FnKitchens', WHERE WHAT IT READS IS OF BULK AT MOST 1048576: true; the input reads as it did. -/
def fnKitchensUptoRow : OpenClaim := { program := "ytnnfbgonjonflaa", sum := "9f65fd3ea23da0b7729312b60f4014cac8b326d329736a1a0b6f17ffdebddccf", func := "loop.example/g01187/laws.FnKitchens", spec := "fnKitchens", plainKeys := false, apart := false, narrowed := true }
def FnKitchensUptoSaid : Prop := fnKitchensUptoRow.holds Try.pinned (OpenSpec.upto fnKitchensSpec)

/-- 'laws.FnVessels', WHERE WHAT IT READS IS OF BULK AT MOST 1048576: true; the input reads as it did. -/
def fnVesselsUptoRow : OpenClaim := { program := "ytnnfbgonjonflaa", sum := "9f65fd3ea23da0b7729312b60f4014cac8b326d329736a1a0b6f17ffdebddccf", func := "loop.example/g01187/laws.FnVessels", spec := "fnVessels", unfollowed := true, recurses := true, plainKeys := false, apart := false, narrowed := true }
def FnVesselsUptoSaid : Prop := fnVesselsUptoRow.holds Try.pinned (OpenSpec.upto fnVesselsSpec)

/-- 'laws.FnPlans', WHERE WHAT IT READS IS OF BULK AT MOST 1048576: true; the input reads as it did. -/
def fnPlansUptoRow : OpenClaim := { program := "ytnnfbgonjonflaa", sum := "9f65fd3ea23da0b7729312b60f4014cac8b326d329736a1a0b6f17ffdebddccf", func := "loop.example/g01187/laws.FnPlans", spec := "fnPlans", unfollowed := true, recurses := true, plainKeys := false, apart := false, narrowed := true }
def FnPlansUptoSaid : Prop := fnPlansUptoRow.holds Try.pinned (OpenSpec.upto fnPlansSpec)

/-- 'laws.FnFillings', WHERE WHAT IT READS IS OF BULK AT MOST 1048576: true; the input reads as it did. -/
def fnFillingsUptoRow : OpenClaim := { program := "ytnnfbgonjonflaa", sum := "9f65fd3ea23da0b7729312b60f4014cac8b326d329736a1a0b6f17ffdebddccf", func := "loop.example/g01187/laws.FnFillings", spec := "fnFillings", unfollowed := true, recurses := true, plainKeys := false, apart := false, narrowed := true }
def FnFillingsUptoSaid : Prop := fnFillingsUptoRow.holds Try.pinned (OpenSpec.upto fnFillingsSpec)

end Rows
end Go.Proofs.Ytnnfbgonjonflaa
