/- FnExactNewConsole: the program's NewConsole returns what the reference's returns, for every kitchen; no condition. -/
import Derived.Test.YtjnolfmmlnnoeaaLawNewKitchen
set_option linter.unusedSimpArgs false
set_option linter.unusedVariables false
set_option maxRecDepth 100000
namespace Go.Proofs.Ytjnolfmmlnnoeaa
open Go Go.Eng
open Go.ChangeShapes Go.WideShapes Go.ChangeAt Go.RowKit
def newCF : List Value → Option Value
  | [.agg ⟨[.int .i64 a, .int .i64 b, .int .i64 c, .int .i64 d, .int .i64 p, .int .i64 q, .int .i64 r, .int .i64 s, .int .i64 clock, .int .i64 mark, .int .i64 count]⟩] =>
    some (.tuple ⟨[.agg ⟨[.int .i64 (if kitchenB a b c d p q r s clock mark count then a else 0), .int .i64 (if kitchenB a b c d p q r s clock mark count then b else 0), .int .i64 (if kitchenB a b c d p q r s clock mark count then c else 0), .int .i64 (if kitchenB a b c d p q r s clock mark count then d else 0),
      .int .i64 (if kitchenB a b c d p q r s clock mark count then p else 0), .int .i64 (if kitchenB a b c d p q r s clock mark count then q else 0), .int .i64 (if kitchenB a b c d p q r s clock mark count then r else 0), .int .i64 (if kitchenB a b c d p q r s clock mark count then s else 0),
      .int .i64 (if kitchenB a b c d p q r s clock mark count then clock else 0), .int .i64 (if kitchenB a b c d p q r s clock mark count then mark else 0), .int .i64 (if kitchenB a b c d p q r s clock mark count then count else 0), .string .empty, .string .empty, .int .i64 0]⟩, .bool (kitchenB a b c d p q r s clock mark count)]⟩)
  | _ => none
theorem sNewConsole_sound : SoundQ Try.prog 23 (flatSem newCF) := flat_sound (env_ok (N := Try.f23.ntmps) (l := [e_l12Good])) Try.func23 (by
  intro args r h
  unfold newCF at h
  split at h <;> cases h
  refine ⟨rfl, rfl, ?_⟩
  conv => whnf
  repeat' ((first | refine chk_intro (lexF_ok (by kernel_rfl)) ?_ | refine bsplit (fun h => ?_) (fun h => ?_) | refine Exists.intro 6 ?_) <;> conv => whnf)
  all_goals (first | rfl | (simp only [Bool.not_eq_true', Bool.not_eq_false', Bool.not_true, Bool.not_false, Bool.and_false, Bool.false_and, Bool.and_true, Bool.true_and, Bool.or_false, Bool.false_or, Bool.or_true, Bool.true_or] at *; simp only [*, Bool.not_eq_true', Bool.not_eq_false', Bool.not_true, Bool.not_false, Bool.and_false, Bool.false_and, Bool.and_true, Bool.true_and, Bool.or_false, Bool.false_or, Bool.or_true, Bool.true_or]; done) | (simp_all []; done) | (simp_all []; omega)))
def e_sNewConsole : Ent Try.prog := .flat 23 (flatSem newCF) ⟨_, Try.func23, rfl, by kernel_rfl⟩ sNewConsole_sound

theorem NewConsole_sound : SoundQ Try.prog 24 (flatSem newCF) := flat_sound (env_ok (N := Try.f24.ntmps) (l := [e_IsKitchen])) Try.func24 (by
  intro args r h
  unfold newCF at h
  split at h <;> cases h
  refine ⟨rfl, rfl, ?_⟩
  conv => whnf
  repeat' ((first | refine chk_intro (lexF_ok (by kernel_rfl)) ?_ | refine bsplit (fun h => ?_) (fun h => ?_) | refine Exists.intro 6 ?_) <;> conv => whnf)
  all_goals (first | rfl | (simp only [Bool.not_eq_true', Bool.not_eq_false', Bool.not_true, Bool.not_false, Bool.and_false, Bool.false_and, Bool.and_true, Bool.true_and, Bool.or_false, Bool.false_or, Bool.or_true, Bool.true_or] at *; simp only [*, Bool.not_eq_true', Bool.not_eq_false', Bool.not_true, Bool.not_false, Bool.and_false, Bool.false_and, Bool.and_true, Bool.true_and, Bool.or_false, Bool.false_or, Bool.or_true, Bool.true_or]; done) | (simp_all []; done) | (simp_all []; omega)))
def e_NewConsole : Ent Try.prog := .flat 24 (flatSem newCF) ⟨_, Try.func24, rfl, by kernel_rfl⟩ NewConsole_sound

def eqLogF : List Value → Option Value
  | [.agg ⟨[.string a, .string b, .int .i64 c]⟩, .agg ⟨[.string p, .string q, .int .i64 r]⟩] => some (.bool (a.toList == p.toList && b.toList == q.toList && c == r))
  | _ => none
theorem eqLog_sound : SoundQ Try.prog 42 (flatSem eqLogF) := flat_sound (env_ok (N := Try.f42.ntmps) (l := [])) Try.func42 (by
  intro args r h
  unfold eqLogF at h
  split at h <;> cases h
  refine ⟨rfl, rfl, ?_⟩
  conv => whnf
  repeat' ((first | refine chk_intro (lexF_ok (by kernel_rfl)) ?_ | refine bsplit (fun h => ?_) (fun h => ?_) | refine Exists.intro 6 ?_) <;> conv => whnf)
  all_goals (first | rfl | (simp only [Bool.not_eq_true', Bool.not_eq_false', Bool.not_true, Bool.not_false, Bool.and_false, Bool.false_and, Bool.and_true, Bool.true_and, Bool.or_false, Bool.false_or, Bool.or_true, Bool.true_or] at *; simp only [*, Bool.not_eq_true', Bool.not_eq_false', Bool.not_true, Bool.not_false, Bool.and_false, Bool.false_and, Bool.and_true, Bool.true_and, Bool.or_false, Bool.false_or, Bool.or_true, Bool.true_or]; done) | (simp_all []; done) | (simp_all []; omega)))
def e_eqLog : Ent Try.prog := .flat 42 (flatSem eqLogF) ⟨_, Try.func42, rfl, by kernel_rfl⟩ eqLog_sound

def eqConF : List Value → Option Value
  | [.agg ⟨[.int .i64 a, .int .i64 b, .int .i64 c, .int .i64 d, .int .i64 p, .int .i64 q, .int .i64 r, .int .i64 s, .int .i64 x, .int .i64 y, .int .i64 z, .string u, .string v, .int .i64 w]⟩,
     .agg ⟨[.int .i64 a', .int .i64 b', .int .i64 c', .int .i64 d', .int .i64 p', .int .i64 q', .int .i64 r', .int .i64 s', .int .i64 x', .int .i64 y', .int .i64 z', .string u', .string v', .int .i64 w']⟩] =>
    some (.bool (((a == a' && b == b' && c == c' && d == d') && (p == p' && q == q' && r == r' && s == s') && x == x' && y == y' && z == z') && (u.toList == u'.toList && v.toList == v'.toList && w == w')))
  | _ => none
theorem eqConsole_sound : SoundQ Try.prog 25 (flatSem eqConF) := flat_sound (env_ok (N := Try.f25.ntmps) (l := [e_eqKitchen, e_eqLog])) Try.func25 (by
  intro args r h
  unfold eqConF at h
  split at h <;> cases h
  refine ⟨rfl, rfl, ?_⟩
  conv => whnf
  repeat' ((first | refine chk_intro (lexF_ok (by kernel_rfl)) ?_ | refine bsplit (fun h => ?_) (fun h => ?_) | refine Exists.intro 6 ?_) <;> conv => whnf)
  all_goals (first | rfl | (simp only [Bool.not_eq_true', Bool.not_eq_false', Bool.not_true, Bool.not_false, Bool.and_false, Bool.false_and, Bool.and_true, Bool.true_and, Bool.or_false, Bool.false_or, Bool.or_true, Bool.true_or] at *; simp only [*, Bool.not_eq_true', Bool.not_eq_false', Bool.not_true, Bool.not_false, Bool.and_false, Bool.false_and, Bool.and_true, Bool.true_and, Bool.or_false, Bool.false_or, Bool.or_true, Bool.true_or]; done) | (simp_all []; done) | (simp_all []; omega)))
def e_eqConsole : Ent Try.prog := .flat 25 (flatSem eqConF) ⟨_, Try.func25, rfl, by kernel_rfl⟩ eqConsole_sound

theorem FnExactNewConsole_body (x0_0 x0_1 x0_2 x0_3 x0_4 x0_5 x0_6 x0_7 x0_8 x0_9 x0_10 : Int) : abody (env Try.f7.ntmps [e_sNewConsole, e_toKitchen, e_NewConsole, e_eqConsole]) Try.f7 [.agg ⟨[.int .i64 x0_0, .int .i64 x0_1, .int .i64 x0_2, .int .i64 x0_3, .int .i64 x0_4, .int .i64 x0_5, .int .i64 x0_6, .int .i64 x0_7, .int .i64 x0_8, .int .i64 x0_9, .int .i64 x0_10]⟩] noH 0 (fun r _ _ lo => r = .bool true ∧ 0 ≤ lo) := by
  conv => whnf
  repeat' ((first | refine chk_intro (lexF_ok (by kernel_rfl)) ?_ | refine bsplit (fun h => ?_) (fun h => ?_) | refine Exists.intro 6 ?_) <;> conv => whnf)
  all_goals (first | exact ⟨rfl, Nat.zero_le _⟩ | (simp_all []; done) | (simp_all []; omega))

theorem FnExactNewConsole_handed (os : Os) (started : os.Started) (H : Type) (enc : TypeId × Value → H) :
    ReturnsInHanded {} Try.checked os 7 .any (Rows.fnExactNewConsoleSpec.pre6 enc Try.prog Try.f7 Rows.fnExactNewConsoleRow.domain false) (Rows.fnExactNewConsoleSpec.post enc Try.prog Try.f7 false true false false) := by
  refine law_handed (C := Try.checked) Try.own started (by kernel_rfl) Try.func7 rfl rfl Try.underlying4 (fun ds h => ?_) Try.laidOut (by kernel_rfl)
    (ChangeSpec.witness6 (enc := enc) (C := Try.checked) false ⟨#[], #[.agg #[.int .i64 0, .int .i64 0, .int .i64 0, .int .i64 0, .int .i64 0, .int .i64 0, .int .i64 0, .int .i64 0, .int .i64 0, .int .i64 0, .int .i64 0]], []⟩ 20 (by kernel_rfl) (by kernel_rfl) (by kernel_rfl) (by kernel_rfl)) ?_
  · match ds, h with
    | [d0], _ => rfl
  · intro W base args ds ps hval0 hA0
    have hval : ∀ (j : Nat) t v, Try.f7.params[j]? = some t → args[j]? = some v → Value.okWide Try.prog W .any base t v := hval0
    have hA : DataW.TrodAll enc Try.prog W 0 (fun _ => true) true Try.f7.params.toList args.toList ds ps := hA0
    rw [Try.params7] at hA hval
    obtain ⟨v0, d0, rfl, rfl, h0⟩ := trodAll_one hA
    obtain ⟨l0, rfl, g0⟩ := agg_arg (n := 20) (ds := List.replicate 11 (.int .i64)) Try.underlying26 rfl (by kernel_rfl) (hval 0 _ _ rfl rfl) h0
    obtain ⟨xs0, e0, rfl, w0⟩ := int_list g0
    match xs0, e0 with
    | [x0_0, x0_1, x0_2, x0_3, x0_4, x0_5, x0_6, x0_7, x0_8, x0_9, x0_10], _ =>
      exact law_calls (env_ok (N := Try.f7.ntmps) (l := [e_sNewConsole, e_toKitchen, e_NewConsole, e_eqConsole])) Try.func7 (Rel.empty W) (flats_refl rfl) (FnExactNewConsole_body x0_0 x0_1 x0_2 x0_3 x0_4 x0_5 x0_6 x0_7 x0_8 x0_9 x0_10)

theorem FnExactNewConsole_holds : Rows.FnExactNewConsoleSaid :=
  OpenClaim.holds_of_wide 7 Try.f7 rfl rfl rfl rfl rfl rfl rfl ⟨rfl, rfl, rfl, rfl, rfl⟩ rfl rfl rfl rfl rfl (by kernel_rfl) Try.func7 (by kernel_rfl)
    (of_decide_eq_true (by kernel_rfl)) (by unfold Func.isWrapper; first | (rw [if_pos (by decide +kernel)]; kernel_rfl) | (rw [if_neg (by decide +kernel)]; exact ⟨rfl, rfl⟩))
    (fun os started H enc _ => FnExactNewConsole_handed os started H enc)

end Go.Proofs.Ytjnolfmmlnnoeaa
