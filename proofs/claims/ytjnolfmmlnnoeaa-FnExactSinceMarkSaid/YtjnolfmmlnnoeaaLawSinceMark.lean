/- FnExactSinceMark: the program's SinceMark returns what the reference's returns, for every kitchen; no condition. -/
import Derived.Test.YtjnolfmmlnnoeaaKitch
import Derived.Test.YtjnolfmmlnnoeaaRows
set_option linter.unusedSimpArgs false
set_option linter.unusedVariables false
set_option maxRecDepth 100000
namespace Go.Proofs.Ytjnolfmmlnnoeaa
open Go Go.Eng
open Go.ChangeShapes Go.WideShapes Go.ChangeAt Go.RowKit
def sinceF : List Value → Option Value
  | [.agg ⟨[.int .i64 a, .int .i64 b, .int .i64 c, .int .i64 d, .int .i64 p, .int .i64 q, .int .i64 r, .int .i64 s, .int .i64 clock, .int .i64 mark, .int .i64 count]⟩] =>
    some (.tuple ⟨[.int .i64 (if kitchenB a b c d p q r s clock mark count then IntKind.i64.wrap (clock - mark) else 0), .bool (kitchenB a b c d p q r s clock mark count)]⟩)
  | _ => none
theorem sSinceMark_sound : SoundQ Try.prog 17 (flatSem sinceF) := flat_sound (env_ok (N := Try.f17.ntmps) (l := [e_l12Good])) Try.func17 (by
  intro args r h
  unfold sinceF at h
  split at h <;> cases h
  refine ⟨rfl, rfl, ?_⟩
  conv => whnf
  repeat' ((first | refine chk_intro (lexF_ok (by kernel_rfl)) ?_ | refine bsplit (fun h => ?_) (fun h => ?_) | refine Exists.intro 6 ?_) <;> conv => whnf)
  all_goals (first | rfl | (simp_all []; done) | (simp_all []; omega)))
def e_sSinceMark : Ent Try.prog := .flat 17 (flatSem sinceF) ⟨_, Try.func17, rfl, by kernel_rfl⟩ sSinceMark_sound

theorem SinceMark_sound : SoundQ Try.prog 18 (flatSem sinceF) := flat_sound (env_ok (N := Try.f18.ntmps) (l := [e_IsKitchen])) Try.func18 (by
  intro args r h
  unfold sinceF at h
  split at h <;> cases h
  refine ⟨rfl, rfl, ?_⟩
  conv => whnf
  repeat' ((first | refine chk_intro (lexF_ok (by kernel_rfl)) ?_ | refine bsplit (fun h => ?_) (fun h => ?_) | refine Exists.intro 6 ?_) <;> conv => whnf)
  all_goals (first | rfl | (simp_all []; done) | (simp_all []; omega)))
def e_SinceMark : Ent Try.prog := .flat 18 (flatSem sinceF) ⟨_, Try.func18, rfl, by kernel_rfl⟩ SinceMark_sound

theorem FnExactSinceMark_body (x0_0 x0_1 x0_2 x0_3 x0_4 x0_5 x0_6 x0_7 x0_8 x0_9 x0_10 : Int) : abody (env Try.f5.ntmps [e_sSinceMark, e_toKitchen, e_SinceMark]) Try.f5 [.agg ⟨[.int .i64 x0_0, .int .i64 x0_1, .int .i64 x0_2, .int .i64 x0_3, .int .i64 x0_4, .int .i64 x0_5, .int .i64 x0_6, .int .i64 x0_7, .int .i64 x0_8, .int .i64 x0_9, .int .i64 x0_10]⟩] noH 0 (fun r _ _ lo => r = .bool true ∧ 0 ≤ lo) := by
  conv => whnf
  repeat' ((first | refine chk_intro (lexF_ok (by kernel_rfl)) ?_ | refine bsplit (fun h => ?_) (fun h => ?_) | refine Exists.intro 6 ?_) <;> conv => whnf)
  all_goals (first | exact ⟨rfl, Nat.zero_le _⟩ | (simp_all []; done) | (simp_all []; omega))

theorem FnExactSinceMark_handed (os : Os) (started : os.Started) (H : Type) (enc : TypeId × Value → H) :
    ReturnsInHanded {} Try.checked os 5 .any (Rows.fnExactSinceMarkSpec.pre6 enc Try.prog Try.f5 Rows.fnExactSinceMarkRow.domain false) (Rows.fnExactSinceMarkSpec.post enc Try.prog Try.f5 false true false false) := by
  refine law_handed (C := Try.checked) Try.own started (by kernel_rfl) Try.func5 rfl rfl Try.underlying4 (fun ds h => ?_) Try.laidOut (by kernel_rfl)
    (ChangeSpec.witness6 (enc := enc) (C := Try.checked) false ⟨#[], #[.agg #[.int .i64 0, .int .i64 0, .int .i64 0, .int .i64 0, .int .i64 0, .int .i64 0, .int .i64 0, .int .i64 0, .int .i64 0, .int .i64 0, .int .i64 0]], []⟩ 20 (by kernel_rfl) (by kernel_rfl) (by kernel_rfl) (by kernel_rfl)) ?_
  · match ds, h with
    | [d0], _ => rfl
  · intro W base args ds ps hval0 hA0
    have hval : ∀ (j : Nat) t v, Try.f5.params[j]? = some t → args[j]? = some v → Value.okWide Try.prog W .any base t v := hval0
    have hA : DataW.TrodAll enc Try.prog W 0 (fun _ => true) true Try.f5.params.toList args.toList ds ps := hA0
    rw [Try.params5] at hA hval
    obtain ⟨v0, d0, rfl, rfl, h0⟩ := trodAll_one hA
    obtain ⟨l0, rfl, g0⟩ := agg_arg (n := 20) (ds := List.replicate 11 (.int .i64)) Try.underlying26 rfl (by kernel_rfl) (hval 0 _ _ rfl rfl) h0
    obtain ⟨xs0, e0, rfl, w0⟩ := int_list g0
    match xs0, e0 with
    | [x0_0, x0_1, x0_2, x0_3, x0_4, x0_5, x0_6, x0_7, x0_8, x0_9, x0_10], _ =>
      exact law_calls (env_ok (N := Try.f5.ntmps) (l := [e_sSinceMark, e_toKitchen, e_SinceMark])) Try.func5 (Rel.empty W) (flats_refl rfl) (FnExactSinceMark_body x0_0 x0_1 x0_2 x0_3 x0_4 x0_5 x0_6 x0_7 x0_8 x0_9 x0_10)

theorem FnExactSinceMark_holds : Rows.FnExactSinceMarkSaid :=
  OpenClaim.holds_of_wide 5 Try.f5 rfl rfl rfl rfl rfl rfl rfl ⟨rfl, rfl, rfl, rfl, rfl⟩ rfl rfl rfl rfl rfl (by kernel_rfl) Try.func5 (by kernel_rfl)
    (of_decide_eq_true (by kernel_rfl)) (by unfold Func.isWrapper; first | (rw [if_pos (by decide +kernel)]; kernel_rfl) | (rw [if_neg (by decide +kernel)]; exact ⟨rfl, rfl⟩))
    (fun os started H enc _ => FnExactSinceMark_handed os started H enc)

end Go.Proofs.Ytjnolfmmlnnoeaa
