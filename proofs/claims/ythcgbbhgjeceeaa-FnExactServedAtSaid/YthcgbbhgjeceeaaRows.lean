/-
  No cell of these rows narrows 'for every input' (looked for: loops, veiled, ifaces, maps, wideKeys, modest, calm, conditions, laid).
  DERIVED. THE GIVEN ROWS OF THIS SEAT. 12 by the template 'for every input the law returns true; each argument reads behind the call as it read before'; 0 by the template 'total and deterministic' (their statements: YthcgbbhgjeceeaaTotals.lean).
  GIVEN WITH THE SEED: the statements are not yours to turn. If you find one false, say at which input.
  Laid BY PROGRAM, IN A SANDBOX (cutbox-rows.mjs): the forced cells as the released guide's own fill.sh prints them over the translation 1a0cbc1d92e62491… (all of the seat's roots in one cut). By AI agents, Wed Nov 11 2026. No macro, syntax, notation, axiom, sorry.
-/
import Derived.Test.YthcgbbhgjeceeaaChecked
import GoSem.Claim
import GoSem.ClaimJoined
import GoSem.ClaimMapViews
import Derived.JoinedTies
import Derived.KernelRfl
namespace Go.Proofs.Ythcgbbhgjeceeaa
/- THE CELL 'sum', in the pinned program and in every row, IS THE sha256 OF THE DUMP (.gsa) THAT YthcgbbhgjeceeaaProg.lean LOADS. Nothing in Lean hashes anything: it is a label: what it is worth is what the hold of that sum in a sandbox is worth. -/
noncomputable def Try.pinned : Pinned := { name := "ythcgbbhgjeceeaa", sum := "1a0cbc1d92e624912075fb359514c8a27a99bc92cf138d3bad0d98ad90419052", checked := Try.checked }
namespace Rows
def none {H : Type} : Left H := { results := [], args := [] }

/-- 'laws.FnExactRunVessels': WHATEVER THE INPUT: true; the input reads as it did. -/
def fnExactRunVesselsSpec : ChangeSpec := { name := "fnExactRunVessels", fn := fun _ => fun
  | [d1, d2, d3] => { results := [.lit (.bool true)], args := [d1, d2, d3] }
  | _ => none }
def fnExactRunVesselsRow : OpenClaim := { program := "ythcgbbhgjeceeaa", sum := "1a0cbc1d92e624912075fb359514c8a27a99bc92cf138d3bad0d98ad90419052", func := "loop.example/g01187/laws.FnExactRunVessels", spec := "fnExactRunVessels", unfollowed := true, recurses := true, plainKeys := false, apart := false }
def FnExactRunVesselsSaid : Prop := fnExactRunVesselsRow.holds Try.pinned (OpenSpec.ofChange fnExactRunVesselsSpec)

/-- ITS FALSE NEIGHBOUR: 'it returns false'. Refute it at one input. -/
def fnExactRunVesselsWrong : ChangeSpec := { name := "fnExactRunVessels", fn := fun _ => fun
  | [d1, d2, d3] => { results := [.lit (.bool false)], args := [d1, d2, d3] }
  | _ => none }
def FnExactRunVesselsWrongFalsely : Prop := fnExactRunVesselsRow.holds Try.pinned (OpenSpec.ofChange fnExactRunVesselsWrong)

/-- 'laws.FnExactWaterSums': WHATEVER THE INPUT: true; the input reads as it did. -/
def fnExactWaterSumsSpec : ChangeSpec := { name := "fnExactWaterSums", fn := fun _ => fun
  | [d1, d2, d3] => { results := [.lit (.bool true)], args := [d1, d2, d3] }
  | _ => none }
def fnExactWaterSumsRow : OpenClaim := { program := "ythcgbbhgjeceeaa", sum := "1a0cbc1d92e624912075fb359514c8a27a99bc92cf138d3bad0d98ad90419052", func := "loop.example/g01187/laws.FnExactWaterSums", spec := "fnExactWaterSums", unfollowed := true, recurses := true, plainKeys := false, apart := false }
def FnExactWaterSumsSaid : Prop := fnExactWaterSumsRow.holds Try.pinned (OpenSpec.ofChange fnExactWaterSumsSpec)

/-- ITS FALSE NEIGHBOUR: 'it returns false'. Refute it at one input. -/
def fnExactWaterSumsWrong : ChangeSpec := { name := "fnExactWaterSums", fn := fun _ => fun
  | [d1, d2, d3] => { results := [.lit (.bool false)], args := [d1, d2, d3] }
  | _ => none }
def FnExactWaterSumsWrongFalsely : Prop := fnExactWaterSumsRow.holds Try.pinned (OpenSpec.ofChange fnExactWaterSumsWrong)

/-- 'laws.FnExactLevelTimes': WHATEVER THE INPUT: true; the input reads as it did. -/
def fnExactLevelTimesSpec : ChangeSpec := { name := "fnExactLevelTimes", fn := fun _ => fun
  | [d1, d2, d3, d4] => { results := [.lit (.bool true)], args := [d1, d2, d3, d4] }
  | _ => none }
def fnExactLevelTimesRow : OpenClaim := { program := "ythcgbbhgjeceeaa", sum := "1a0cbc1d92e624912075fb359514c8a27a99bc92cf138d3bad0d98ad90419052", func := "loop.example/g01187/laws.FnExactLevelTimes", spec := "fnExactLevelTimes", unfollowed := true, recurses := true, plainKeys := false, apart := false }
def FnExactLevelTimesSaid : Prop := fnExactLevelTimesRow.holds Try.pinned (OpenSpec.ofChange fnExactLevelTimesSpec)

/-- ITS FALSE NEIGHBOUR: 'it returns false'. Refute it at one input. -/
def fnExactLevelTimesWrong : ChangeSpec := { name := "fnExactLevelTimes", fn := fun _ => fun
  | [d1, d2, d3, d4] => { results := [.lit (.bool false)], args := [d1, d2, d3, d4] }
  | _ => none }
def FnExactLevelTimesWrongFalsely : Prop := fnExactLevelTimesRow.holds Try.pinned (OpenSpec.ofChange fnExactLevelTimesWrong)

/-- 'laws.FnExactFirstSpill': WHATEVER THE INPUT: true; the input reads as it did. -/
def fnExactFirstSpillSpec : ChangeSpec := { name := "fnExactFirstSpill", fn := fun _ => fun
  | [d1, d2] => { results := [.lit (.bool true)], args := [d1, d2] }
  | _ => none }
def fnExactFirstSpillRow : OpenClaim := { program := "ythcgbbhgjeceeaa", sum := "1a0cbc1d92e624912075fb359514c8a27a99bc92cf138d3bad0d98ad90419052", func := "loop.example/g01187/laws.FnExactFirstSpill", spec := "fnExactFirstSpill", unfollowed := true, recurses := true, plainKeys := false, apart := false }
def FnExactFirstSpillSaid : Prop := fnExactFirstSpillRow.holds Try.pinned (OpenSpec.ofChange fnExactFirstSpillSpec)

/-- ITS FALSE NEIGHBOUR: 'it returns false'. Refute it at one input. -/
def fnExactFirstSpillWrong : ChangeSpec := { name := "fnExactFirstSpill", fn := fun _ => fun
  | [d1, d2] => { results := [.lit (.bool false)], args := [d1, d2] }
  | _ => none }
def FnExactFirstSpillWrongFalsely : Prop := fnExactFirstSpillRow.holds Try.pinned (OpenSpec.ofChange fnExactFirstSpillWrong)

/-- 'laws.FnExactMenuOf': WHATEVER THE INPUT: true; the input reads as it did. -/
def fnExactMenuOfSpec : ChangeSpec := { name := "fnExactMenuOf", fn := fun _ => fun
  | [d1, d2, d3] => { results := [.lit (.bool true)], args := [d1, d2, d3] }
  | _ => none }
def fnExactMenuOfRow : OpenClaim := { program := "ythcgbbhgjeceeaa", sum := "1a0cbc1d92e624912075fb359514c8a27a99bc92cf138d3bad0d98ad90419052", func := "loop.example/g01187/laws.FnExactMenuOf", spec := "fnExactMenuOf", unfollowed := true, recurses := true, plainKeys := false, apart := false }
def FnExactMenuOfSaid : Prop := fnExactMenuOfRow.holds Try.pinned (OpenSpec.ofChange fnExactMenuOfSpec)

/-- ITS FALSE NEIGHBOUR: 'it returns false'. Refute it at one input. -/
def fnExactMenuOfWrong : ChangeSpec := { name := "fnExactMenuOf", fn := fun _ => fun
  | [d1, d2, d3] => { results := [.lit (.bool false)], args := [d1, d2, d3] }
  | _ => none }
def FnExactMenuOfWrongFalsely : Prop := fnExactMenuOfRow.holds Try.pinned (OpenSpec.ofChange fnExactMenuOfWrong)

/-- 'laws.FnExactServedAt': WHATEVER THE INPUT: true; the input reads as it did. -/
def fnExactServedAtSpec : ChangeSpec := { name := "fnExactServedAt", fn := fun _ => fun
  | [d1, d2, d3] => { results := [.lit (.bool true)], args := [d1, d2, d3] }
  | _ => none }
def fnExactServedAtRow : OpenClaim := { program := "ythcgbbhgjeceeaa", sum := "1a0cbc1d92e624912075fb359514c8a27a99bc92cf138d3bad0d98ad90419052", func := "loop.example/g01187/laws.FnExactServedAt", spec := "fnExactServedAt", unfollowed := true, recurses := true, plainKeys := false, apart := false }
def FnExactServedAtSaid : Prop := fnExactServedAtRow.holds Try.pinned (OpenSpec.ofChange fnExactServedAtSpec)

/-- ITS FALSE NEIGHBOUR: 'it returns false'. Refute it at one input. -/
def fnExactServedAtWrong : ChangeSpec := { name := "fnExactServedAt", fn := fun _ => fun
  | [d1, d2, d3] => { results := [.lit (.bool false)], args := [d1, d2, d3] }
  | _ => none }
def FnExactServedAtWrongFalsely : Prop := fnExactServedAtRow.holds Try.pinned (OpenSpec.ofChange fnExactServedAtWrong)

/-- 'laws.FnExactSpansIn': WHATEVER THE INPUT: true; the input reads as it did. -/
def fnExactSpansInSpec : ChangeSpec := { name := "fnExactSpansIn", fn := fun _ => fun
  | [d1, d2] => { results := [.lit (.bool true)], args := [d1, d2] }
  | _ => none }
def fnExactSpansInRow : OpenClaim := { program := "ythcgbbhgjeceeaa", sum := "1a0cbc1d92e624912075fb359514c8a27a99bc92cf138d3bad0d98ad90419052", func := "loop.example/g01187/laws.FnExactSpansIn", spec := "fnExactSpansIn", unfollowed := true, recurses := true, plainKeys := false, apart := false }
def FnExactSpansInSaid : Prop := fnExactSpansInRow.holds Try.pinned (OpenSpec.ofChange fnExactSpansInSpec)

/-- ITS FALSE NEIGHBOUR: 'it returns false'. Refute it at one input. -/
def fnExactSpansInWrong : ChangeSpec := { name := "fnExactSpansIn", fn := fun _ => fun
  | [d1, d2] => { results := [.lit (.bool false)], args := [d1, d2] }
  | _ => none }
def FnExactSpansInWrongFalsely : Prop := fnExactSpansInRow.holds Try.pinned (OpenSpec.ofChange fnExactSpansInWrong)

/-- 'laws.FnExactFewestMealSets': WHATEVER THE INPUT: true; the input reads as it did. -/
def fnExactFewestMealSetsSpec : ChangeSpec := { name := "fnExactFewestMealSets", fn := fun _ => fun
  | [d1, d2] => { results := [.lit (.bool true)], args := [d1, d2] }
  | _ => none }
def fnExactFewestMealSetsRow : OpenClaim := { program := "ythcgbbhgjeceeaa", sum := "1a0cbc1d92e624912075fb359514c8a27a99bc92cf138d3bad0d98ad90419052", func := "loop.example/g01187/laws.FnExactFewestMealSets", spec := "fnExactFewestMealSets", unfollowed := true, recurses := true, plainKeys := false, apart := false }
def FnExactFewestMealSetsSaid : Prop := fnExactFewestMealSetsRow.holds Try.pinned (OpenSpec.ofChange fnExactFewestMealSetsSpec)

/-- ITS FALSE NEIGHBOUR: 'it returns false'. Refute it at one input. -/
def fnExactFewestMealSetsWrong : ChangeSpec := { name := "fnExactFewestMealSets", fn := fun _ => fun
  | [d1, d2] => { results := [.lit (.bool false)], args := [d1, d2] }
  | _ => none }
def FnExactFewestMealSetsWrongFalsely : Prop := fnExactFewestMealSetsRow.holds Try.pinned (OpenSpec.ofChange fnExactFewestMealSetsWrong)

/-- 'laws.FnExactIsWonGame': WHATEVER THE INPUT: true; the input reads as it did. -/
def fnExactIsWonGameSpec : ChangeSpec := { name := "fnExactIsWonGame", fn := fun _ => fun
  | [d1, d2, d3, d4] => { results := [.lit (.bool true)], args := [d1, d2, d3, d4] }
  | _ => none }
def fnExactIsWonGameRow : OpenClaim := { program := "ythcgbbhgjeceeaa", sum := "1a0cbc1d92e624912075fb359514c8a27a99bc92cf138d3bad0d98ad90419052", func := "loop.example/g01187/laws.FnExactIsWonGame", spec := "fnExactIsWonGame", unfollowed := true, recurses := true, plainKeys := false, apart := false }
def FnExactIsWonGameSaid : Prop := fnExactIsWonGameRow.holds Try.pinned (OpenSpec.ofChange fnExactIsWonGameSpec)

/-- ITS FALSE NEIGHBOUR: 'it returns false'. Refute it at one input. -/
def fnExactIsWonGameWrong : ChangeSpec := { name := "fnExactIsWonGame", fn := fun _ => fun
  | [d1, d2, d3, d4] => { results := [.lit (.bool false)], args := [d1, d2, d3, d4] }
  | _ => none }
def FnExactIsWonGameWrongFalsely : Prop := fnExactIsWonGameRow.holds Try.pinned (OpenSpec.ofChange fnExactIsWonGameWrong)

/-- 'laws.FnExactWinSets': WHATEVER THE INPUT: true; the input reads as it did. -/
def fnExactWinSetsSpec : ChangeSpec := { name := "fnExactWinSets", fn := fun _ => fun
  | [d1, d2, d3, d4] => { results := [.lit (.bool true)], args := [d1, d2, d3, d4] }
  | _ => none }
def fnExactWinSetsRow : OpenClaim := { program := "ythcgbbhgjeceeaa", sum := "1a0cbc1d92e624912075fb359514c8a27a99bc92cf138d3bad0d98ad90419052", func := "loop.example/g01187/laws.FnExactWinSets", spec := "fnExactWinSets", unfollowed := true, recurses := true, plainKeys := false, apart := false }
def FnExactWinSetsSaid : Prop := fnExactWinSetsRow.holds Try.pinned (OpenSpec.ofChange fnExactWinSetsSpec)

/-- ITS FALSE NEIGHBOUR: 'it returns false'. Refute it at one input. -/
def fnExactWinSetsWrong : ChangeSpec := { name := "fnExactWinSets", fn := fun _ => fun
  | [d1, d2, d3, d4] => { results := [.lit (.bool false)], args := [d1, d2, d3, d4] }
  | _ => none }
def FnExactWinSetsWrongFalsely : Prop := fnExactWinSetsRow.holds Try.pinned (OpenSpec.ofChange fnExactWinSetsWrong)

/-- 'laws.FnExactWonGoals': WHATEVER THE INPUT: true; the input reads as it did. -/
def fnExactWonGoalsSpec : ChangeSpec := { name := "fnExactWonGoals", fn := fun _ => fun
  | [d1, d2] => { results := [.lit (.bool true)], args := [d1, d2] }
  | _ => none }
def fnExactWonGoalsRow : OpenClaim := { program := "ythcgbbhgjeceeaa", sum := "1a0cbc1d92e624912075fb359514c8a27a99bc92cf138d3bad0d98ad90419052", func := "loop.example/g01187/laws.FnExactWonGoals", spec := "fnExactWonGoals", unfollowed := true, recurses := true, plainKeys := false, apart := false }
def FnExactWonGoalsSaid : Prop := fnExactWonGoalsRow.holds Try.pinned (OpenSpec.ofChange fnExactWonGoalsSpec)

/-- ITS FALSE NEIGHBOUR: 'it returns false'. Refute it at one input. -/
def fnExactWonGoalsWrong : ChangeSpec := { name := "fnExactWonGoals", fn := fun _ => fun
  | [d1, d2] => { results := [.lit (.bool false)], args := [d1, d2] }
  | _ => none }
def FnExactWonGoalsWrongFalsely : Prop := fnExactWonGoalsRow.holds Try.pinned (OpenSpec.ofChange fnExactWonGoalsWrong)

/-- 'laws.FnExactCountPlans': WHATEVER THE INPUT: true; the input reads as it did. -/
def fnExactCountPlansSpec : ChangeSpec := { name := "fnExactCountPlans", fn := fun _ => fun
  | [d1, d2, d3] => { results := [.lit (.bool true)], args := [d1, d2, d3] }
  | _ => none }
def fnExactCountPlansRow : OpenClaim := { program := "ythcgbbhgjeceeaa", sum := "1a0cbc1d92e624912075fb359514c8a27a99bc92cf138d3bad0d98ad90419052", func := "loop.example/g01187/laws.FnExactCountPlans", spec := "fnExactCountPlans", recurses := true, plainKeys := false, apart := false }
def FnExactCountPlansSaid : Prop := fnExactCountPlansRow.holds Try.pinned (OpenSpec.ofChange fnExactCountPlansSpec)

/-- ITS FALSE NEIGHBOUR: 'it returns false'. Refute it at one input. -/
def fnExactCountPlansWrong : ChangeSpec := { name := "fnExactCountPlans", fn := fun _ => fun
  | [d1, d2, d3] => { results := [.lit (.bool false)], args := [d1, d2, d3] }
  | _ => none }
def FnExactCountPlansWrongFalsely : Prop := fnExactCountPlansRow.holds Try.pinned (OpenSpec.ofChange fnExactCountPlansWrong)

/- THE SECOND FORM. 'bulk': how many values and letters a reading holds, each counted each time it is reached (what is shared counts as often as it is met; a slice's spare places count too). A statement '..UptoSaid' is the law's where the arguments, and the package variables that the reading takes, are together of bulk at most 1048576: NARROWER than '..Said'. Prove '..Said' where nothing that the law and all that it calls make is longer than what came in: it says more and counts as full. Else prove '..UptoSaid'. A law counts once. -/
mutual
def uptoBulk {H : Type} : DataW H → Nat
  | .lit (.string bytes) => bytes.length + 1
  | .lit _ => 1
  | .nil => 1
  | .ptr d => uptoBulk d + 1
  | .slice elems spare => uptoBulkAll elems + uptoBulkAll spare + 1
  | .agg parts => uptoBulkAll parts + 1
  | .iface _ d => uptoBulk d + 1
  | .map entries => uptoBulkEntries entries + 1
  | .held _ => 1
def uptoBulkAll {H : Type} : List (DataW H) → Nat
  | [] => 0
  | d :: r => uptoBulk d + uptoBulkAll r
def uptoBulkEntries {H : Type} : List (Lit × DataW H) → Nat
  | [] => 0
  | x :: r => uptoBulkEntry x + uptoBulkEntries r
def uptoBulkEntry {H : Type} : Lit × DataW H → Nat
  | (.string bytes, d) => bytes.length + uptoBulk d + 1
  | (_, d) => uptoBulk d + 1
 end
def uptoSmall : (H : Type) → List (DataW H) → Bool := fun _ ds => decide (uptoBulkAll ds ≤ 1048576)
def OpenSpec.upto (s : _root_.Go.ChangeSpec) : _root_.Go.OpenSpec := { _root_.Go.OpenSpec.ofChange s with cond := some uptoSmall }

/-- 'laws.FnExactRunVessels', WHERE WHAT IT READS IS OF BULK AT MOST 1048576: true; the input reads as it did. -/
def fnExactRunVesselsUptoRow : OpenClaim := { program := "ythcgbbhgjeceeaa", sum := "1a0cbc1d92e624912075fb359514c8a27a99bc92cf138d3bad0d98ad90419052", func := "loop.example/g01187/laws.FnExactRunVessels", spec := "fnExactRunVessels", unfollowed := true, recurses := true, plainKeys := false, apart := false, narrowed := true }
def FnExactRunVesselsUptoSaid : Prop := fnExactRunVesselsUptoRow.holds Try.pinned (OpenSpec.upto fnExactRunVesselsSpec)

/-- 'laws.FnExactWaterSums', WHERE WHAT IT READS IS OF BULK AT MOST 1048576: true; the input reads as it did. -/
def fnExactWaterSumsUptoRow : OpenClaim := { program := "ythcgbbhgjeceeaa", sum := "1a0cbc1d92e624912075fb359514c8a27a99bc92cf138d3bad0d98ad90419052", func := "loop.example/g01187/laws.FnExactWaterSums", spec := "fnExactWaterSums", unfollowed := true, recurses := true, plainKeys := false, apart := false, narrowed := true }
def FnExactWaterSumsUptoSaid : Prop := fnExactWaterSumsUptoRow.holds Try.pinned (OpenSpec.upto fnExactWaterSumsSpec)

/-- 'laws.FnExactLevelTimes', WHERE WHAT IT READS IS OF BULK AT MOST 1048576: true; the input reads as it did. -/
def fnExactLevelTimesUptoRow : OpenClaim := { program := "ythcgbbhgjeceeaa", sum := "1a0cbc1d92e624912075fb359514c8a27a99bc92cf138d3bad0d98ad90419052", func := "loop.example/g01187/laws.FnExactLevelTimes", spec := "fnExactLevelTimes", unfollowed := true, recurses := true, plainKeys := false, apart := false, narrowed := true }
def FnExactLevelTimesUptoSaid : Prop := fnExactLevelTimesUptoRow.holds Try.pinned (OpenSpec.upto fnExactLevelTimesSpec)

/-- 'laws.FnExactFirstSpill', WHERE WHAT IT READS IS OF BULK AT MOST 1048576: true; the input reads as it did. -/
def fnExactFirstSpillUptoRow : OpenClaim := { program := "ythcgbbhgjeceeaa", sum := "1a0cbc1d92e624912075fb359514c8a27a99bc92cf138d3bad0d98ad90419052", func := "loop.example/g01187/laws.FnExactFirstSpill", spec := "fnExactFirstSpill", unfollowed := true, recurses := true, plainKeys := false, apart := false, narrowed := true }
def FnExactFirstSpillUptoSaid : Prop := fnExactFirstSpillUptoRow.holds Try.pinned (OpenSpec.upto fnExactFirstSpillSpec)

/-- 'laws.FnExactMenuOf', WHERE WHAT IT READS IS OF BULK AT MOST 1048576: true; the input reads as it did. -/
def fnExactMenuOfUptoRow : OpenClaim := { program := "ythcgbbhgjeceeaa", sum := "1a0cbc1d92e624912075fb359514c8a27a99bc92cf138d3bad0d98ad90419052", func := "loop.example/g01187/laws.FnExactMenuOf", spec := "fnExactMenuOf", unfollowed := true, recurses := true, plainKeys := false, apart := false, narrowed := true }
def FnExactMenuOfUptoSaid : Prop := fnExactMenuOfUptoRow.holds Try.pinned (OpenSpec.upto fnExactMenuOfSpec)

/-- 'laws.FnExactServedAt', WHERE WHAT IT READS IS OF BULK AT MOST 1048576: true; the input reads as it did. -/
def fnExactServedAtUptoRow : OpenClaim := { program := "ythcgbbhgjeceeaa", sum := "1a0cbc1d92e624912075fb359514c8a27a99bc92cf138d3bad0d98ad90419052", func := "loop.example/g01187/laws.FnExactServedAt", spec := "fnExactServedAt", unfollowed := true, recurses := true, plainKeys := false, apart := false, narrowed := true }
def FnExactServedAtUptoSaid : Prop := fnExactServedAtUptoRow.holds Try.pinned (OpenSpec.upto fnExactServedAtSpec)

/-- 'laws.FnExactSpansIn', WHERE WHAT IT READS IS OF BULK AT MOST 1048576: true; the input reads as it did. -/
def fnExactSpansInUptoRow : OpenClaim := { program := "ythcgbbhgjeceeaa", sum := "1a0cbc1d92e624912075fb359514c8a27a99bc92cf138d3bad0d98ad90419052", func := "loop.example/g01187/laws.FnExactSpansIn", spec := "fnExactSpansIn", unfollowed := true, recurses := true, plainKeys := false, apart := false, narrowed := true }
def FnExactSpansInUptoSaid : Prop := fnExactSpansInUptoRow.holds Try.pinned (OpenSpec.upto fnExactSpansInSpec)

/-- 'laws.FnExactFewestMealSets', WHERE WHAT IT READS IS OF BULK AT MOST 1048576: true; the input reads as it did. -/
def fnExactFewestMealSetsUptoRow : OpenClaim := { program := "ythcgbbhgjeceeaa", sum := "1a0cbc1d92e624912075fb359514c8a27a99bc92cf138d3bad0d98ad90419052", func := "loop.example/g01187/laws.FnExactFewestMealSets", spec := "fnExactFewestMealSets", unfollowed := true, recurses := true, plainKeys := false, apart := false, narrowed := true }
def FnExactFewestMealSetsUptoSaid : Prop := fnExactFewestMealSetsUptoRow.holds Try.pinned (OpenSpec.upto fnExactFewestMealSetsSpec)

/-- 'laws.FnExactIsWonGame', WHERE WHAT IT READS IS OF BULK AT MOST 1048576: true; the input reads as it did. -/
def fnExactIsWonGameUptoRow : OpenClaim := { program := "ythcgbbhgjeceeaa", sum := "1a0cbc1d92e624912075fb359514c8a27a99bc92cf138d3bad0d98ad90419052", func := "loop.example/g01187/laws.FnExactIsWonGame", spec := "fnExactIsWonGame", unfollowed := true, recurses := true, plainKeys := false, apart := false, narrowed := true }
def FnExactIsWonGameUptoSaid : Prop := fnExactIsWonGameUptoRow.holds Try.pinned (OpenSpec.upto fnExactIsWonGameSpec)

/-- 'laws.FnExactWinSets', WHERE WHAT IT READS IS OF BULK AT MOST 1048576: true; the input reads as it did. -/
def fnExactWinSetsUptoRow : OpenClaim := { program := "ythcgbbhgjeceeaa", sum := "1a0cbc1d92e624912075fb359514c8a27a99bc92cf138d3bad0d98ad90419052", func := "loop.example/g01187/laws.FnExactWinSets", spec := "fnExactWinSets", unfollowed := true, recurses := true, plainKeys := false, apart := false, narrowed := true }
def FnExactWinSetsUptoSaid : Prop := fnExactWinSetsUptoRow.holds Try.pinned (OpenSpec.upto fnExactWinSetsSpec)

/-- 'laws.FnExactWonGoals', WHERE WHAT IT READS IS OF BULK AT MOST 1048576: true; the input reads as it did. -/
def fnExactWonGoalsUptoRow : OpenClaim := { program := "ythcgbbhgjeceeaa", sum := "1a0cbc1d92e624912075fb359514c8a27a99bc92cf138d3bad0d98ad90419052", func := "loop.example/g01187/laws.FnExactWonGoals", spec := "fnExactWonGoals", unfollowed := true, recurses := true, plainKeys := false, apart := false, narrowed := true }
def FnExactWonGoalsUptoSaid : Prop := fnExactWonGoalsUptoRow.holds Try.pinned (OpenSpec.upto fnExactWonGoalsSpec)

/-- 'laws.FnExactCountPlans', WHERE WHAT IT READS IS OF BULK AT MOST 1048576: true; the input reads as it did. -/
def fnExactCountPlansUptoRow : OpenClaim := { program := "ythcgbbhgjeceeaa", sum := "1a0cbc1d92e624912075fb359514c8a27a99bc92cf138d3bad0d98ad90419052", func := "loop.example/g01187/laws.FnExactCountPlans", spec := "fnExactCountPlans", recurses := true, plainKeys := false, apart := false, narrowed := true }
def FnExactCountPlansUptoSaid : Prop := fnExactCountPlansUptoRow.holds Try.pinned (OpenSpec.upto fnExactCountPlansSpec)

end Rows
end Go.Proofs.Ythcgbbhgjeceeaa
