/- FnExactIsKitchen: the program's IsKitchen and the reference's compute the same condition, for every kitchen; no condition. -/
import Derived.Test.YtjnolfmmlnnoeaaKitch
import Derived.Test.YtjnolfmmlnnoeaaRows
set_option linter.unusedSimpArgs false
set_option linter.unusedVariables false
set_option maxRecDepth 100000
namespace Go.Proofs.Ytjnolfmmlnnoeaa
open Go Go.Eng
open Go.ChangeShapes Go.WideShapes Go.ChangeAt Go.RowKit
theorem FnExactIsKitchen_body (x0_0 x0_1 x0_2 x0_3 x0_4 x0_5 x0_6 x0_7 x0_8 x0_9 x0_10 : Int) : abody (env Try.f3.ntmps [e_sIsKitchen, e_toKitchen, e_IsKitchen]) Try.f3 [.agg ⟨[.int .i64 x0_0, .int .i64 x0_1, .int .i64 x0_2, .int .i64 x0_3, .int .i64 x0_4, .int .i64 x0_5, .int .i64 x0_6, .int .i64 x0_7, .int .i64 x0_8, .int .i64 x0_9, .int .i64 x0_10]⟩] noH 0 (fun r _ _ lo => r = .bool true ∧ 0 ≤ lo) := by
  conv => whnf
  repeat' ((first | refine chk_intro (lexF_ok (by kernel_rfl)) ?_ | refine bsplit (fun h => ?_) (fun h => ?_) | refine Exists.intro 6 ?_) <;> conv => whnf)
  all_goals (first | exact ⟨rfl, Nat.zero_le _⟩ | (simp_all []; done) | (simp_all []; omega))

theorem FnExactIsKitchen_handed (os : Os) (started : os.Started) (H : Type) (enc : TypeId × Value → H) :
    ReturnsInHanded {} Try.checked os 3 .any (Rows.fnExactIsKitchenSpec.pre6 enc Try.prog Try.f3 Rows.fnExactIsKitchenRow.domain false) (Rows.fnExactIsKitchenSpec.post enc Try.prog Try.f3 false true false false) := by
  refine law_handed (C := Try.checked) Try.own started (by kernel_rfl) Try.func3 rfl rfl Try.underlying4 (fun ds h => ?_) Try.laidOut (by kernel_rfl)
    (ChangeSpec.witness6 (enc := enc) (C := Try.checked) false ⟨#[], #[.agg #[.int .i64 0, .int .i64 0, .int .i64 0, .int .i64 0, .int .i64 0, .int .i64 0, .int .i64 0, .int .i64 0, .int .i64 0, .int .i64 0, .int .i64 0]], []⟩ 20 (by kernel_rfl) (by kernel_rfl) (by kernel_rfl) (by kernel_rfl)) ?_
  · match ds, h with
    | [d0], _ => rfl
  · intro W base args ds ps hval0 hA0
    have hval : ∀ (j : Nat) t v, Try.f3.params[j]? = some t → args[j]? = some v → Value.okWide Try.prog W .any base t v := hval0
    have hA : DataW.TrodAll enc Try.prog W 0 (fun _ => true) true Try.f3.params.toList args.toList ds ps := hA0
    rw [Try.params3] at hA hval
    obtain ⟨v0, d0, rfl, rfl, h0⟩ := trodAll_one hA
    obtain ⟨l0, rfl, g0⟩ := agg_arg (n := 20) (ds := List.replicate 11 (.int .i64)) Try.underlying26 rfl (by kernel_rfl) (hval 0 _ _ rfl rfl) h0
    obtain ⟨xs0, e0, rfl, w0⟩ := int_list g0
    match xs0, e0 with
    | [x0_0, x0_1, x0_2, x0_3, x0_4, x0_5, x0_6, x0_7, x0_8, x0_9, x0_10], _ =>
      exact law_calls (env_ok (N := Try.f3.ntmps) (l := [e_sIsKitchen, e_toKitchen, e_IsKitchen])) Try.func3 (Rel.empty W) (flats_refl rfl) (FnExactIsKitchen_body x0_0 x0_1 x0_2 x0_3 x0_4 x0_5 x0_6 x0_7 x0_8 x0_9 x0_10)

theorem FnExactIsKitchen_holds : Rows.FnExactIsKitchenSaid :=
  OpenClaim.holds_of_wide 3 Try.f3 rfl rfl rfl rfl rfl rfl rfl ⟨rfl, rfl, rfl, rfl, rfl⟩ rfl rfl rfl rfl rfl (by kernel_rfl) Try.func3 (by kernel_rfl)
    (of_decide_eq_true (by kernel_rfl)) (by unfold Func.isWrapper; first | (rw [if_pos (by decide +kernel)]; kernel_rfl) | (rw [if_neg (by decide +kernel)]; exact ⟨rfl, rfl⟩))
    (fun os started H enc _ => FnExactIsKitchen_handed os started H enc)

end Go.Proofs.Ytjnolfmmlnnoeaa
