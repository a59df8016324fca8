/-
  No cell of these rows narrows 'for every input' (looked for: loops, veiled, ifaces, maps, wideKeys, modest, calm, conditions, laid).
  DERIVED. THE GIVEN ROWS OF THIS SEAT. 12 by the template 'for every input the law returns true; each argument reads behind the call as it read before'; 0 by the template 'total and deterministic' (their statements: YtmmjhebplflabaaTotals.lean).
  GIVEN WITH THE SEED: the statements are not yours to turn. If you find one false, say at which input.
  Laid BY PROGRAM, IN A SANDBOX (cutbox-rows.mjs): the forced cells as the released guide's own fill.sh prints them over the translation 9df8b7ea5ef7064e… (all of the seat's roots in one cut). By AI agents, Wed Nov 11 2026. No macro, syntax, notation, axiom, sorry.
-/
import Derived.Test.YtmmjhebplflabaaChecked
import GoSem.Claim
import GoSem.ClaimJoined
import GoSem.ClaimMapViews
import Derived.JoinedTies
import Derived.KernelRfl
namespace Go.Proofs.Ytmmjhebplflabaa
/- THE CELL 'sum', in the pinned program and in every row, IS THE sha256 OF THE DUMP (.gsa) THAT YtmmjhebplflabaaProg.lean LOADS. Nothing in Lean hashes anything: it is a label: what it is worth is what the hold of that sum in a sandbox is worth. -/
noncomputable def Try.pinned : Pinned := { name := "ytmmjhebplflabaa", sum := "9df8b7ea5ef7064ef249a806806b3fead8bf585aad1d5a9f86fb13c01f44aa29", checked := Try.checked }
namespace Rows
def none {H : Type} : Left H := { results := [], args := [] }

/-- 'laws.FnExactDoChore': WHATEVER THE INPUT: true; the input reads as it did. -/
def fnExactDoChoreSpec : ChangeSpec := { name := "fnExactDoChore", fn := fun _ => fun
  | [d1, d2] => { results := [.lit (.bool true)], args := [d1, d2] }
  | _ => none }
def fnExactDoChoreRow : OpenClaim := { program := "ytmmjhebplflabaa", sum := "9df8b7ea5ef7064ef249a806806b3fead8bf585aad1d5a9f86fb13c01f44aa29", func := "loop.example/g01187/laws.FnExactDoChore", spec := "fnExactDoChore", apart := false }
def FnExactDoChoreSaid : Prop := fnExactDoChoreRow.holds Try.pinned (OpenSpec.ofChange fnExactDoChoreSpec)

/-- ITS FALSE NEIGHBOUR: 'it returns false'. Refute it at one input. -/
def fnExactDoChoreWrong : ChangeSpec := { name := "fnExactDoChore", fn := fun _ => fun
  | [d1, d2] => { results := [.lit (.bool false)], args := [d1, d2] }
  | _ => none }
def FnExactDoChoreWrongFalsely : Prop := fnExactDoChoreRow.holds Try.pinned (OpenSpec.ofChange fnExactDoChoreWrong)

/-- 'laws.FnExactDoChores': WHATEVER THE INPUT: true; the input reads as it did. -/
def fnExactDoChoresSpec : ChangeSpec := { name := "fnExactDoChores", fn := fun _ => fun
  | [d1, d2] => { results := [.lit (.bool true)], args := [d1, d2] }
  | _ => none }
def fnExactDoChoresRow : OpenClaim := { program := "ytmmjhebplflabaa", sum := "9df8b7ea5ef7064ef249a806806b3fead8bf585aad1d5a9f86fb13c01f44aa29", func := "loop.example/g01187/laws.FnExactDoChores", spec := "fnExactDoChores", apart := false }
def FnExactDoChoresSaid : Prop := fnExactDoChoresRow.holds Try.pinned (OpenSpec.ofChange fnExactDoChoresSpec)

/-- ITS FALSE NEIGHBOUR: 'it returns false'. Refute it at one input. -/
def fnExactDoChoresWrong : ChangeSpec := { name := "fnExactDoChores", fn := fun _ => fun
  | [d1, d2] => { results := [.lit (.bool false)], args := [d1, d2] }
  | _ => none }
def FnExactDoChoresWrongFalsely : Prop := fnExactDoChoresRow.holds Try.pinned (OpenSpec.ofChange fnExactDoChoresWrong)

/-- 'laws.FnExactPlanTime': WHATEVER THE INPUT: true; the input reads as it did. -/
def fnExactPlanTimeSpec : ChangeSpec := { name := "fnExactPlanTime", fn := fun _ => fun
  | [d1, d2] => { results := [.lit (.bool true)], args := [d1, d2] }
  | _ => none }
def fnExactPlanTimeRow : OpenClaim := { program := "ytmmjhebplflabaa", sum := "9df8b7ea5ef7064ef249a806806b3fead8bf585aad1d5a9f86fb13c01f44aa29", func := "loop.example/g01187/laws.FnExactPlanTime", spec := "fnExactPlanTime", unfollowed := true, recurses := true, apart := false }
def FnExactPlanTimeSaid : Prop := fnExactPlanTimeRow.holds Try.pinned (OpenSpec.ofChange fnExactPlanTimeSpec)

/-- ITS FALSE NEIGHBOUR: 'it returns false'. Refute it at one input. -/
def fnExactPlanTimeWrong : ChangeSpec := { name := "fnExactPlanTime", fn := fun _ => fun
  | [d1, d2] => { results := [.lit (.bool false)], args := [d1, d2] }
  | _ => none }
def FnExactPlanTimeWrongFalsely : Prop := fnExactPlanTimeRow.holds Try.pinned (OpenSpec.ofChange fnExactPlanTimeWrong)

/-- 'laws.FnExactAreEqualPlans': WHATEVER THE INPUT: true; the input reads as it did. -/
def fnExactAreEqualPlansSpec : ChangeSpec := { name := "fnExactAreEqualPlans", fn := fun _ => fun
  | [d1, d2, d3] => { results := [.lit (.bool true)], args := [d1, d2, d3] }
  | _ => none }
def fnExactAreEqualPlansRow : OpenClaim := { program := "ytmmjhebplflabaa", sum := "9df8b7ea5ef7064ef249a806806b3fead8bf585aad1d5a9f86fb13c01f44aa29", func := "loop.example/g01187/laws.FnExactAreEqualPlans", spec := "fnExactAreEqualPlans", unfollowed := true, recurses := true, apart := false }
def FnExactAreEqualPlansSaid : Prop := fnExactAreEqualPlansRow.holds Try.pinned (OpenSpec.ofChange fnExactAreEqualPlansSpec)

/-- ITS FALSE NEIGHBOUR: 'it returns false'. Refute it at one input. -/
def fnExactAreEqualPlansWrong : ChangeSpec := { name := "fnExactAreEqualPlans", fn := fun _ => fun
  | [d1, d2, d3] => { results := [.lit (.bool false)], args := [d1, d2, d3] }
  | _ => none }
def FnExactAreEqualPlansWrongFalsely : Prop := fnExactAreEqualPlansRow.holds Try.pinned (OpenSpec.ofChange fnExactAreEqualPlansWrong)

/-- 'laws.FnExactJoinPlans': WHATEVER THE INPUT: true; the input reads as it did. -/
def fnExactJoinPlansSpec : ChangeSpec := { name := "fnExactJoinPlans", fn := fun _ => fun
  | [d1, d2, d3] => { results := [.lit (.bool true)], args := [d1, d2, d3] }
  | _ => none }
def fnExactJoinPlansRow : OpenClaim := { program := "ytmmjhebplflabaa", sum := "9df8b7ea5ef7064ef249a806806b3fead8bf585aad1d5a9f86fb13c01f44aa29", func := "loop.example/g01187/laws.FnExactJoinPlans", spec := "fnExactJoinPlans", unfollowed := true, recurses := true, apart := false }
def FnExactJoinPlansSaid : Prop := fnExactJoinPlansRow.holds Try.pinned (OpenSpec.ofChange fnExactJoinPlansSpec)

/-- ITS FALSE NEIGHBOUR: 'it returns false'. Refute it at one input. -/
def fnExactJoinPlansWrong : ChangeSpec := { name := "fnExactJoinPlans", fn := fun _ => fun
  | [d1, d2, d3] => { results := [.lit (.bool false)], args := [d1, d2, d3] }
  | _ => none }
def FnExactJoinPlansWrongFalsely : Prop := fnExactJoinPlansRow.holds Try.pinned (OpenSpec.ofChange fnExactJoinPlansWrong)

/-- 'laws.FnExactNeedlessSets': WHATEVER THE INPUT: true; the input reads as it did. -/
def fnExactNeedlessSetsSpec : ChangeSpec := { name := "fnExactNeedlessSets", fn := fun _ => fun
  | [d1, d2] => { results := [.lit (.bool true)], args := [d1, d2] }
  | _ => none }
def fnExactNeedlessSetsRow : OpenClaim := { program := "ytmmjhebplflabaa", sum := "9df8b7ea5ef7064ef249a806806b3fead8bf585aad1d5a9f86fb13c01f44aa29", func := "loop.example/g01187/laws.FnExactNeedlessSets", spec := "fnExactNeedlessSets", unfollowed := true, recurses := true, apart := false }
def FnExactNeedlessSetsSaid : Prop := fnExactNeedlessSetsRow.holds Try.pinned (OpenSpec.ofChange fnExactNeedlessSetsSpec)

/-- ITS FALSE NEIGHBOUR: 'it returns false'. Refute it at one input. -/
def fnExactNeedlessSetsWrong : ChangeSpec := { name := "fnExactNeedlessSets", fn := fun _ => fun
  | [d1, d2] => { results := [.lit (.bool false)], args := [d1, d2] }
  | _ => none }
def FnExactNeedlessSetsWrongFalsely : Prop := fnExactNeedlessSetsRow.holds Try.pinned (OpenSpec.ofChange fnExactNeedlessSetsWrong)

/-- 'laws.FnExactSlimPlan': WHATEVER THE INPUT: true; the input reads as it did. -/
def fnExactSlimPlanSpec : ChangeSpec := { name := "fnExactSlimPlan", fn := fun _ => fun
  | [d1, d2] => { results := [.lit (.bool true)], args := [d1, d2] }
  | _ => none }
def fnExactSlimPlanRow : OpenClaim := { program := "ytmmjhebplflabaa", sum := "9df8b7ea5ef7064ef249a806806b3fead8bf585aad1d5a9f86fb13c01f44aa29", func := "loop.example/g01187/laws.FnExactSlimPlan", spec := "fnExactSlimPlan", unfollowed := true, recurses := true, apart := false }
def FnExactSlimPlanSaid : Prop := fnExactSlimPlanRow.holds Try.pinned (OpenSpec.ofChange fnExactSlimPlanSpec)

/-- ITS FALSE NEIGHBOUR: 'it returns false'. Refute it at one input. -/
def fnExactSlimPlanWrong : ChangeSpec := { name := "fnExactSlimPlan", fn := fun _ => fun
  | [d1, d2] => { results := [.lit (.bool false)], args := [d1, d2] }
  | _ => none }
def FnExactSlimPlanWrongFalsely : Prop := fnExactSlimPlanRow.holds Try.pinned (OpenSpec.ofChange fnExactSlimPlanWrong)

/-- 'laws.FnExactDropTurns': WHATEVER THE INPUT: true; the input reads as it did. -/
def fnExactDropTurnsSpec : ChangeSpec := { name := "fnExactDropTurns", fn := fun _ => fun
  | [d1, d2] => { results := [.lit (.bool true)], args := [d1, d2] }
  | _ => none }
def fnExactDropTurnsRow : OpenClaim := { program := "ytmmjhebplflabaa", sum := "9df8b7ea5ef7064ef249a806806b3fead8bf585aad1d5a9f86fb13c01f44aa29", func := "loop.example/g01187/laws.FnExactDropTurns", spec := "fnExactDropTurns", unfollowed := true, recurses := true, apart := false }
def FnExactDropTurnsSaid : Prop := fnExactDropTurnsRow.holds Try.pinned (OpenSpec.ofChange fnExactDropTurnsSpec)

/-- ITS FALSE NEIGHBOUR: 'it returns false'. Refute it at one input. -/
def fnExactDropTurnsWrong : ChangeSpec := { name := "fnExactDropTurns", fn := fun _ => fun
  | [d1, d2] => { results := [.lit (.bool false)], args := [d1, d2] }
  | _ => none }
def FnExactDropTurnsWrongFalsely : Prop := fnExactDropTurnsRow.holds Try.pinned (OpenSpec.ofChange fnExactDropTurnsWrong)

/-- 'laws.FnExactRecordOf': WHATEVER THE INPUT: true; the input reads as it did. -/
def fnExactRecordOfSpec : ChangeSpec := { name := "fnExactRecordOf", fn := fun _ => fun
  | [d1, d2] => { results := [.lit (.bool true)], args := [d1, d2] }
  | _ => none }
def fnExactRecordOfRow : OpenClaim := { program := "ytmmjhebplflabaa", sum := "9df8b7ea5ef7064ef249a806806b3fead8bf585aad1d5a9f86fb13c01f44aa29", func := "loop.example/g01187/laws.FnExactRecordOf", spec := "fnExactRecordOf", unfollowed := true, recurses := true, apart := false }
def FnExactRecordOfSaid : Prop := fnExactRecordOfRow.holds Try.pinned (OpenSpec.ofChange fnExactRecordOfSpec)

/-- ITS FALSE NEIGHBOUR: 'it returns false'. Refute it at one input. -/
def fnExactRecordOfWrong : ChangeSpec := { name := "fnExactRecordOf", fn := fun _ => fun
  | [d1, d2] => { results := [.lit (.bool false)], args := [d1, d2] }
  | _ => none }
def FnExactRecordOfWrongFalsely : Prop := fnExactRecordOfRow.holds Try.pinned (OpenSpec.ofChange fnExactRecordOfWrong)

/-- 'laws.FnExactIsRecord': WHATEVER THE INPUT: true; the input reads as it did. -/
def fnExactIsRecordSpec : ChangeSpec := { name := "fnExactIsRecord", fn := fun _ => fun
  | [d1, d2] => { results := [.lit (.bool true)], args := [d1, d2] }
  | _ => none }
def fnExactIsRecordRow : OpenClaim := { program := "ytmmjhebplflabaa", sum := "9df8b7ea5ef7064ef249a806806b3fead8bf585aad1d5a9f86fb13c01f44aa29", func := "loop.example/g01187/laws.FnExactIsRecord", spec := "fnExactIsRecord", unfollowed := true, recurses := true, apart := false }
def FnExactIsRecordSaid : Prop := fnExactIsRecordRow.holds Try.pinned (OpenSpec.ofChange fnExactIsRecordSpec)

/-- ITS FALSE NEIGHBOUR: 'it returns false'. Refute it at one input. -/
def fnExactIsRecordWrong : ChangeSpec := { name := "fnExactIsRecord", fn := fun _ => fun
  | [d1, d2] => { results := [.lit (.bool false)], args := [d1, d2] }
  | _ => none }
def FnExactIsRecordWrongFalsely : Prop := fnExactIsRecordRow.holds Try.pinned (OpenSpec.ofChange fnExactIsRecordWrong)

/-- 'laws.FnExactFirstFit': WHATEVER THE INPUT: true; the input reads as it did. -/
def fnExactFirstFitSpec : ChangeSpec := { name := "fnExactFirstFit", fn := fun _ => fun
  | [d1, d2, d3] => { results := [.lit (.bool true)], args := [d1, d2, d3] }
  | _ => none }
def fnExactFirstFitRow : OpenClaim := { program := "ytmmjhebplflabaa", sum := "9df8b7ea5ef7064ef249a806806b3fead8bf585aad1d5a9f86fb13c01f44aa29", func := "loop.example/g01187/laws.FnExactFirstFit", spec := "fnExactFirstFit", unfollowed := true, recurses := true, apart := false }
def FnExactFirstFitSaid : Prop := fnExactFirstFitRow.holds Try.pinned (OpenSpec.ofChange fnExactFirstFitSpec)

/-- ITS FALSE NEIGHBOUR: 'it returns false'. Refute it at one input. -/
def fnExactFirstFitWrong : ChangeSpec := { name := "fnExactFirstFit", fn := fun _ => fun
  | [d1, d2, d3] => { results := [.lit (.bool false)], args := [d1, d2, d3] }
  | _ => none }
def FnExactFirstFitWrongFalsely : Prop := fnExactFirstFitRow.holds Try.pinned (OpenSpec.ofChange fnExactFirstFitWrong)

/-- 'laws.FnExactLastFit': WHATEVER THE INPUT: true; the input reads as it did. -/
def fnExactLastFitSpec : ChangeSpec := { name := "fnExactLastFit", fn := fun _ => fun
  | [d1, d2, d3] => { results := [.lit (.bool true)], args := [d1, d2, d3] }
  | _ => none }
def fnExactLastFitRow : OpenClaim := { program := "ytmmjhebplflabaa", sum := "9df8b7ea5ef7064ef249a806806b3fead8bf585aad1d5a9f86fb13c01f44aa29", func := "loop.example/g01187/laws.FnExactLastFit", spec := "fnExactLastFit", unfollowed := true, recurses := true, apart := false }
def FnExactLastFitSaid : Prop := fnExactLastFitRow.holds Try.pinned (OpenSpec.ofChange fnExactLastFitSpec)

/-- ITS FALSE NEIGHBOUR: 'it returns false'. Refute it at one input. -/
def fnExactLastFitWrong : ChangeSpec := { name := "fnExactLastFit", fn := fun _ => fun
  | [d1, d2, d3] => { results := [.lit (.bool false)], args := [d1, d2, d3] }
  | _ => none }
def FnExactLastFitWrongFalsely : Prop := fnExactLastFitRow.holds Try.pinned (OpenSpec.ofChange fnExactLastFitWrong)

/- THE SECOND FORM. 'bulk': how many values and letters a reading holds, each counted each time it is reached (what is shared counts as often as it is met; a slice's spare places count too). A statement '..UptoSaid' is the law's where the arguments, and the package variables that the reading takes, are together of bulk at most 1048576: NARROWER than '..Said'. Prove '..Said' where nothing that the law and all that it calls make is longer than what came in: it says more and counts as full. Else prove '..UptoSaid'. A law counts once. -/
mutual
def uptoBulk {H : Type} : DataW H → Nat
  | .lit (.string bytes) => bytes.length + 1
  | .lit _ => 1
  | .nil => 1
  | .ptr d => uptoBulk d + 1
  | .slice elems spare => uptoBulkAll elems + uptoBulkAll spare + 1
  | .agg parts => uptoBulkAll parts + 1
  | .iface _ d => uptoBulk d + 1
  | .map entries => uptoBulkEntries entries + 1
  | .held _ => 1
def uptoBulkAll {H : Type} : List (DataW H) → Nat
  | [] => 0
  | d :: r => uptoBulk d + uptoBulkAll r
def uptoBulkEntries {H : Type} : List (Lit × DataW H) → Nat
  | [] => 0
  | x :: r => uptoBulkEntry x + uptoBulkEntries r
def uptoBulkEntry {H : Type} : Lit × DataW H → Nat
  | (.string bytes, d) => bytes.length + uptoBulk d + 1
  | (_, d) => uptoBulk d + 1
 end
def uptoSmall : (H : Type) → List (DataW H) → Bool := fun _ ds => decide (uptoBulkAll ds ≤ 1048576)
def OpenSpec.upto (s : _root_.Go.ChangeSpec) : _root_.Go.OpenSpec := { _root_.Go.OpenSpec.ofChange s with cond := some uptoSmall }

/-- 'laws.FnExactDoChore', WHERE WHAT IT READS IS OF BULK AT MOST 1048576: true; the input reads as it did. -/
def fnExactDoChoreUptoRow : OpenClaim := { program := "ytmmjhebplflabaa", sum := "9df8b7ea5ef7064ef249a806806b3fead8bf585aad1d5a9f86fb13c01f44aa29", func := "loop.example/g01187/laws.FnExactDoChore", spec := "fnExactDoChore", apart := false, narrowed := true }
def FnExactDoChoreUptoSaid : Prop := fnExactDoChoreUptoRow.holds Try.pinned (OpenSpec.upto fnExactDoChoreSpec)

/-- 'laws.FnExactDoChores', WHERE WHAT IT READS IS OF BULK AT MOST 1048576: true; the input reads as it did. -/
def fnExactDoChoresUptoRow : OpenClaim := { program := "ytmmjhebplflabaa", sum := "9df8b7ea5ef7064ef249a806806b3fead8bf585aad1d5a9f86fb13c01f44aa29", func := "loop.example/g01187/laws.FnExactDoChores", spec := "fnExactDoChores", apart := false, narrowed := true }
def FnExactDoChoresUptoSaid : Prop := fnExactDoChoresUptoRow.holds Try.pinned (OpenSpec.upto fnExactDoChoresSpec)

/-- 'laws.FnExactPlanTime', WHERE WHAT IT READS IS OF BULK AT MOST 1048576: true; the input reads as it did. -/
def fnExactPlanTimeUptoRow : OpenClaim := { program := "ytmmjhebplflabaa", sum := "9df8b7ea5ef7064ef249a806806b3fead8bf585aad1d5a9f86fb13c01f44aa29", func := "loop.example/g01187/laws.FnExactPlanTime", spec := "fnExactPlanTime", unfollowed := true, recurses := true, apart := false, narrowed := true }
def FnExactPlanTimeUptoSaid : Prop := fnExactPlanTimeUptoRow.holds Try.pinned (OpenSpec.upto fnExactPlanTimeSpec)

/-- 'laws.FnExactAreEqualPlans', WHERE WHAT IT READS IS OF BULK AT MOST 1048576: true; the input reads as it did. -/
def fnExactAreEqualPlansUptoRow : OpenClaim := { program := "ytmmjhebplflabaa", sum := "9df8b7ea5ef7064ef249a806806b3fead8bf585aad1d5a9f86fb13c01f44aa29", func := "loop.example/g01187/laws.FnExactAreEqualPlans", spec := "fnExactAreEqualPlans", unfollowed := true, recurses := true, apart := false, narrowed := true }
def FnExactAreEqualPlansUptoSaid : Prop := fnExactAreEqualPlansUptoRow.holds Try.pinned (OpenSpec.upto fnExactAreEqualPlansSpec)

/-- 'laws.FnExactJoinPlans', WHERE WHAT IT READS IS OF BULK AT MOST 1048576: true; the input reads as it did. -/
def fnExactJoinPlansUptoRow : OpenClaim := { program := "ytmmjhebplflabaa", sum := "9df8b7ea5ef7064ef249a806806b3fead8bf585aad1d5a9f86fb13c01f44aa29", func := "loop.example/g01187/laws.FnExactJoinPlans", spec := "fnExactJoinPlans", unfollowed := true, recurses := true, apart := false, narrowed := true }
def FnExactJoinPlansUptoSaid : Prop := fnExactJoinPlansUptoRow.holds Try.pinned (OpenSpec.upto fnExactJoinPlansSpec)

/-- 'laws.FnExactNeedlessSets', WHERE WHAT IT READS IS OF BULK AT MOST 1048576: true; the input reads as it did. -/
def fnExactNeedlessSetsUptoRow : OpenClaim := { program := "ytmmjhebplflabaa", sum := "9df8b7ea5ef7064ef249a806806b3fead8bf585aad1d5a9f86fb13c01f44aa29", func := "loop.example/g01187/laws.FnExactNeedlessSets", spec := "fnExactNeedlessSets", unfollowed := true, recurses := true, apart := false, narrowed := true }
def FnExactNeedlessSetsUptoSaid : Prop := fnExactNeedlessSetsUptoRow.holds Try.pinned (OpenSpec.upto fnExactNeedlessSetsSpec)

/-- 'laws.FnExactSlimPlan', WHERE WHAT IT READS IS OF BULK AT MOST 1048576: true; the input reads as it did. -/
def fnExactSlimPlanUptoRow : OpenClaim := { program := "ytmmjhebplflabaa", sum := "9df8b7ea5ef7064ef249a806806b3fead8bf585aad1d5a9f86fb13c01f44aa29", func := "loop.example/g01187/laws.FnExactSlimPlan", spec := "fnExactSlimPlan", unfollowed := true, recurses := true, apart := false, narrowed := true }
def FnExactSlimPlanUptoSaid : Prop := fnExactSlimPlanUptoRow.holds Try.pinned (OpenSpec.upto fnExactSlimPlanSpec)

/-- 'laws.FnExactDropTurns', WHERE WHAT IT READS IS OF BULK AT MOST 1048576: true; the input reads as it did. -/
def fnExactDropTurnsUptoRow : OpenClaim := { program := "ytmmjhebplflabaa", sum := "9df8b7ea5ef7064ef249a806806b3fead8bf585aad1d5a9f86fb13c01f44aa29", func := "loop.example/g01187/laws.FnExactDropTurns", spec := "fnExactDropTurns", unfollowed := true, recurses := true, apart := false, narrowed := true }
def FnExactDropTurnsUptoSaid : Prop := fnExactDropTurnsUptoRow.holds Try.pinned (OpenSpec.upto fnExactDropTurnsSpec)

/-- 'laws.FnExactRecordOf', WHERE WHAT IT READS IS OF BULK AT MOST 1048576: true; the input reads as it did. -/
def fnExactRecordOfUptoRow : OpenClaim := { program := "ytmmjhebplflabaa", sum := "9df8b7ea5ef7064ef249a806806b3fead8bf585aad1d5a9f86fb13c01f44aa29", func := "loop.example/g01187/laws.FnExactRecordOf", spec := "fnExactRecordOf", unfollowed := true, recurses := true, apart := false, narrowed := true }
def FnExactRecordOfUptoSaid : Prop := fnExactRecordOfUptoRow.holds Try.pinned (OpenSpec.upto fnExactRecordOfSpec)

/-- 'laws.FnExactIsRecord', WHERE WHAT IT READS IS OF BULK AT MOST 1048576: true; the input reads as it did. -/
def fnExactIsRecordUptoRow : OpenClaim := { program := "ytmmjhebplflabaa", sum := "9df8b7ea5ef7064ef249a806806b3fead8bf585aad1d5a9f86fb13c01f44aa29", func := "loop.example/g01187/laws.FnExactIsRecord", spec := "fnExactIsRecord", unfollowed := true, recurses := true, apart := false, narrowed := true }
def FnExactIsRecordUptoSaid : Prop := fnExactIsRecordUptoRow.holds Try.pinned (OpenSpec.upto fnExactIsRecordSpec)

/-- 'laws.FnExactFirstFit', WHERE WHAT IT READS IS OF BULK AT MOST 1048576: true; the input reads as it did. -/
def fnExactFirstFitUptoRow : OpenClaim := { program := "ytmmjhebplflabaa", sum := "9df8b7ea5ef7064ef249a806806b3fead8bf585aad1d5a9f86fb13c01f44aa29", func := "loop.example/g01187/laws.FnExactFirstFit", spec := "fnExactFirstFit", unfollowed := true, recurses := true, apart := false, narrowed := true }
def FnExactFirstFitUptoSaid : Prop := fnExactFirstFitUptoRow.holds Try.pinned (OpenSpec.upto fnExactFirstFitSpec)

/-- 'laws.FnExactLastFit', WHERE WHAT IT READS IS OF BULK AT MOST 1048576: true; the input reads as it did. -/
def fnExactLastFitUptoRow : OpenClaim := { program := "ytmmjhebplflabaa", sum := "9df8b7ea5ef7064ef249a806806b3fead8bf585aad1d5a9f86fb13c01f44aa29", func := "loop.example/g01187/laws.FnExactLastFit", spec := "fnExactLastFit", unfollowed := true, recurses := true, apart := false, narrowed := true }
def FnExactLastFitUptoSaid : Prop := fnExactLastFitUptoRow.holds Try.pinned (OpenSpec.upto fnExactLastFitSpec)

end Rows
end Go.Proofs.Ytmmjhebplflabaa
