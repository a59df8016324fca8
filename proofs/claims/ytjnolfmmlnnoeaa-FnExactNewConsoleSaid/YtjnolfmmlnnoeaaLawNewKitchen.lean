/- FnExactNewKitchen: the program's NewKitchen returns what the reference's returns, for every kit; no condition. -/
import Derived.Test.YtjnolfmmlnnoeaaKitch
import Derived.Test.YtjnolfmmlnnoeaaRows
set_option linter.unusedSimpArgs false
set_option linter.unusedVariables false
set_option maxRecDepth 100000
namespace Go.Proofs.Ytjnolfmmlnnoeaa
open Go Go.Eng
open Go.ChangeShapes Go.WideShapes Go.ChangeAt Go.RowKit
def newKF : List Value → Option Value
  | [.agg ⟨[.int .i64 a, .int .i64 b, .int .i64 c, .int .i64 d]⟩] =>
    some (.tuple ⟨[.agg ⟨[.int .i64 (if kitchenB a b c d 0 0 0 0 0 0 0 then a else 0), .int .i64 (if kitchenB a b c d 0 0 0 0 0 0 0 then b else 0), .int .i64 (if kitchenB a b c d 0 0 0 0 0 0 0 then c else 0), .int .i64 (if kitchenB a b c d 0 0 0 0 0 0 0 then d else 0), .int .i64 0, .int .i64 0, .int .i64 0, .int .i64 0, .int .i64 0, .int .i64 0, .int .i64 0]⟩, .bool (kitchenB a b c d 0 0 0 0 0 0 0)]⟩)
  | _ => none
def kitchenOrF : List Value → Option Value
  | [.agg ⟨[.int .i64 a, .int .i64 b, .int .i64 c, .int .i64 d, .int .i64 p, .int .i64 q, .int .i64 r, .int .i64 s, .int .i64 clock, .int .i64 mark, .int .i64 count]⟩] =>
    some (.tuple ⟨[.agg ⟨[.int .i64 (if kitchenB a b c d p q r s clock mark count then a else 0), .int .i64 (if kitchenB a b c d p q r s clock mark count then b else 0), .int .i64 (if kitchenB a b c d p q r s clock mark count then c else 0), .int .i64 (if kitchenB a b c d p q r s clock mark count then d else 0),
      .int .i64 (if kitchenB a b c d p q r s clock mark count then p else 0), .int .i64 (if kitchenB a b c d p q r s clock mark count then q else 0), .int .i64 (if kitchenB a b c d p q r s clock mark count then r else 0), .int .i64 (if kitchenB a b c d p q r s clock mark count then s else 0),
      .int .i64 (if kitchenB a b c d p q r s clock mark count then clock else 0), .int .i64 (if kitchenB a b c d p q r s clock mark count then mark else 0), .int .i64 (if kitchenB a b c d p q r s clock mark count then count else 0)]⟩, .bool (kitchenB a b c d p q r s clock mark count)]⟩)
  | _ => none
theorem sNewKitchen_sound : SoundQ Try.prog 19 (flatSem newKF) := flat_sound (env_ok (N := Try.f19.ntmps) (l := [e_l12Good])) Try.func19 (by
  intro args r h
  unfold newKF at h
  split at h <;> cases h
  refine ⟨rfl, rfl, ?_⟩
  conv => whnf
  repeat' ((first | refine chk_intro (lexF_ok (by kernel_rfl)) ?_ | refine bsplit (fun h => ?_) (fun h => ?_) | refine Exists.intro 6 ?_) <;> conv => whnf)
  all_goals (first | rfl | (simp_all []; done) | (simp_all []; omega)))
def e_sNewKitchen : Ent Try.prog := .flat 19 (flatSem newKF) ⟨_, Try.func19, rfl, by kernel_rfl⟩ sNewKitchen_sound

theorem kitchenOr_sound : SoundQ Try.prog 39 (flatSem kitchenOrF) := flat_sound (env_ok (N := Try.f39.ntmps) (l := [e_IsKitchen])) Try.func39 (by
  intro args r h
  unfold kitchenOrF at h
  split at h <;> cases h
  refine ⟨rfl, rfl, ?_⟩
  conv => whnf
  repeat' ((first | refine chk_intro (lexF_ok (by kernel_rfl)) ?_ | refine bsplit (fun h => ?_) (fun h => ?_) | refine Exists.intro 6 ?_) <;> conv => whnf)
  all_goals (first | rfl | (simp_all []; done) | (simp_all []; omega)))
def e_kitchenOr : Ent Try.prog := .flat 39 (flatSem kitchenOrF) ⟨_, Try.func39, rfl, by kernel_rfl⟩ kitchenOr_sound

theorem NewKitchen_sound : SoundQ Try.prog 21 (flatSem newKF) := flat_sound (env_ok (N := Try.f21.ntmps) (l := [e_kitchenOr])) Try.func21 (by
  intro args r h
  unfold newKF at h
  split at h <;> cases h
  refine ⟨rfl, rfl, ?_⟩
  conv => whnf
  repeat' ((first | refine chk_intro (lexF_ok (by kernel_rfl)) ?_ | refine bsplit (fun h => ?_) (fun h => ?_) | refine Exists.intro 6 ?_) <;> conv => whnf)
  all_goals (first | rfl | (split <;> rfl) | (simp_all; done)))
def e_NewKitchen : Ent Try.prog := .flat 21 (flatSem newKF) ⟨_, Try.func21, rfl, by kernel_rfl⟩ NewKitchen_sound

def eq4F : List Value → Option Value
  | [.agg ⟨[.int .i64 a, .int .i64 b, .int .i64 c, .int .i64 d]⟩, .agg ⟨[.int .i64 p, .int .i64 q, .int .i64 r, .int .i64 s]⟩] => some (.bool (a == p && b == q && c == r && d == s))
  | _ => none
theorem eqIntA4_sound : SoundQ Try.prog 41 (flatSem eq4F) := flat_sound (env_ok (N := Try.f41.ntmps) (l := [])) Try.func41 (by
  intro args r h
  unfold eq4F at h
  split at h <;> cases h
  refine ⟨rfl, rfl, ?_⟩
  conv => whnf
  repeat' ((first | refine chk_intro (lexF_ok (by kernel_rfl)) ?_ | refine bsplit (fun h => ?_) (fun h => ?_) | refine Exists.intro 6 ?_) <;> conv => whnf)
  all_goals (first | rfl | (simp_all []; done) | (simp_all []; omega)))
def e_eqIntA4 : Ent Try.prog := .flat 41 (flatSem eq4F) ⟨_, Try.func41, rfl, by kernel_rfl⟩ eqIntA4_sound

theorem eqKit_sound : SoundQ Try.prog 40 (flatSem eq4F) := flat_sound (env_ok (N := Try.f40.ntmps) (l := [e_eqIntA4])) Try.func40 (by
  intro args r h
  unfold eq4F at h
  split at h <;> cases h
  refine ⟨rfl, rfl, ?_⟩
  conv => whnf
  repeat' ((first | refine chk_intro (lexF_ok (by kernel_rfl)) ?_ | refine bsplit (fun h => ?_) (fun h => ?_) | refine Exists.intro 6 ?_) <;> conv => whnf)
  all_goals (first | rfl | (simp_all []; done) | (simp_all []; omega)))
def e_eqKit : Ent Try.prog := .flat 40 (flatSem eq4F) ⟨_, Try.func40, rfl, by kernel_rfl⟩ eqKit_sound

def eq11F : List Value → Option Value
  | [.agg ⟨[.int .i64 a, .int .i64 b, .int .i64 c, .int .i64 d, .int .i64 p, .int .i64 q, .int .i64 r, .int .i64 s, .int .i64 x, .int .i64 y, .int .i64 z]⟩,
     .agg ⟨[.int .i64 a', .int .i64 b', .int .i64 c', .int .i64 d', .int .i64 p', .int .i64 q', .int .i64 r', .int .i64 s', .int .i64 x', .int .i64 y', .int .i64 z']⟩] =>
    some (.bool ((a == a' && b == b' && c == c' && d == d') && (p == p' && q == q' && r == r' && s == s') && x == x' && y == y' && z == z'))
  | _ => none
theorem eqKitchen_sound : SoundQ Try.prog 22 (flatSem eq11F) := flat_sound (env_ok (N := Try.f22.ntmps) (l := [e_eqKit, e_eqIntA4])) Try.func22 (by
  intro args r h
  unfold eq11F at h
  split at h <;> cases h
  refine ⟨rfl, rfl, ?_⟩
  conv => whnf
  repeat' ((first | refine chk_intro (lexF_ok (by kernel_rfl)) ?_ | refine bsplit (fun h => ?_) (fun h => ?_) | refine Exists.intro 6 ?_) <;> conv => whnf)
  all_goals (first | rfl | (simp_all []; done) | (simp_all []; omega)))
def e_eqKitchen : Ent Try.prog := .flat 22 (flatSem eq11F) ⟨_, Try.func22, rfl, by kernel_rfl⟩ eqKitchen_sound

theorem FnExactNewKitchen_body (x0_0 x0_1 x0_2 x0_3 : Int) : abody (env Try.f6.ntmps [e_sNewKitchen, e_toKit, e_NewKitchen, e_eqKitchen]) Try.f6 [.agg ⟨[.int .i64 x0_0, .int .i64 x0_1, .int .i64 x0_2, .int .i64 x0_3]⟩] noH 0 (fun r _ _ lo => r = .bool true ∧ 0 ≤ lo) := by
  conv => whnf
  repeat' ((first | refine chk_intro (lexF_ok (by kernel_rfl)) ?_ | refine bsplit (fun h => ?_) (fun h => ?_) | refine Exists.intro 6 ?_) <;> conv => whnf)
  all_goals (first | exact ⟨rfl, Nat.zero_le _⟩ | (simp_all []; done) | (simp_all []; omega))

theorem FnExactNewKitchen_handed (os : Os) (started : os.Started) (H : Type) (enc : TypeId × Value → H) :
    ReturnsInHanded {} Try.checked os 6 .any (Rows.fnExactNewKitchenSpec.pre6 enc Try.prog Try.f6 Rows.fnExactNewKitchenRow.domain false) (Rows.fnExactNewKitchenSpec.post enc Try.prog Try.f6 false true false false) := by
  refine law_handed (C := Try.checked) Try.own started (by kernel_rfl) Try.func6 rfl rfl Try.underlying4 (fun ds h => ?_) Try.laidOut (by kernel_rfl)
    (ChangeSpec.witness6 (enc := enc) (C := Try.checked) false ⟨#[], #[.agg #[.int .i64 0, .int .i64 0, .int .i64 0, .int .i64 0]], []⟩ 20 (by kernel_rfl) (by kernel_rfl) (by kernel_rfl) (by kernel_rfl)) ?_
  · match ds, h with
    | [d0], _ => rfl
  · intro W base args ds ps hval0 hA0
    have hval : ∀ (j : Nat) t v, Try.f6.params[j]? = some t → args[j]? = some v → Value.okWide Try.prog W .any base t v := hval0
    have hA : DataW.TrodAll enc Try.prog W 0 (fun _ => true) true Try.f6.params.toList args.toList ds ps := hA0
    rw [Try.params6] at hA hval
    obtain ⟨v0, d0, rfl, rfl, h0⟩ := trodAll_one hA
    obtain ⟨l0, rfl, g0⟩ := agg_arg (n := 20) (ds := List.replicate 4 (.int .i64)) Try.underlying24 rfl (by kernel_rfl) (hval 0 _ _ rfl rfl) h0
    obtain ⟨xs0, e0, rfl, w0⟩ := int_list g0
    match xs0, e0 with
    | [x0_0, x0_1, x0_2, x0_3], _ =>
      exact law_calls (env_ok (N := Try.f6.ntmps) (l := [e_sNewKitchen, e_toKit, e_NewKitchen, e_eqKitchen])) Try.func6 (Rel.empty W) (flats_refl rfl) (FnExactNewKitchen_body x0_0 x0_1 x0_2 x0_3)

theorem FnExactNewKitchen_holds : Rows.FnExactNewKitchenSaid :=
  OpenClaim.holds_of_wide 6 Try.f6 rfl rfl rfl rfl rfl rfl rfl ⟨rfl, rfl, rfl, rfl, rfl⟩ rfl rfl rfl rfl rfl (by kernel_rfl) Try.func6 (by kernel_rfl)
    (of_decide_eq_true (by kernel_rfl)) (by unfold Func.isWrapper; first | (rw [if_pos (by decide +kernel)]; kernel_rfl) | (rw [if_neg (by decide +kernel)]; exact ⟨rfl, rfl⟩))
    (fun os started H enc _ => FnExactNewKitchen_handed os started H enc)

end Go.Proofs.Ytjnolfmmlnnoeaa
