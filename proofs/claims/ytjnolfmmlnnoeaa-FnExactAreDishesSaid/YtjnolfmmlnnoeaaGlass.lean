/- Small functions on glasses: what each computes. -/
import Derived.Test.YtjnolfmmlnnoeaaLem
set_option linter.unusedSimpArgs false
set_option linter.unusedVariables false
set_option maxRecDepth 100000
namespace Go.Proofs.Ytjnolfmmlnnoeaa
open Go Go.Eng

def inB (x a b : Int) : Bool := decide (a ≤ x) && decide (x ≤ b)

def l1InF : List Value → Option Value
  | [.int .i64 x, .int .i64 a, .int .i64 b] => some (.bool (inB x a b))
  | _ => none
theorem l1In_sound : SoundQ Try.prog 47 (flatSem l1InF) := flat_sound (env_ok (N := Try.f47.ntmps) (l := []) (live := [])) Try.func47 (by
  intro args r h
  unfold l1InF at h
  split at h <;> cases h
  refine ⟨rfl, rfl, ?_⟩
  conv => whnf
  repeat' ((first | refine chk_intro (lexF_ok (by kernel_rfl)) ?_ | refine bsplit (fun h => ?_) (fun h => ?_) | refine Or.inl (Exists.intro 6 ?_)) <;> conv => whnf)
  all_goals (first | rfl | (simp only [Bool.not_eq_true', Bool.not_eq_false', Bool.not_true, Bool.not_false, Bool.and_false, Bool.false_and, Bool.and_true, Bool.true_and, Bool.or_false, Bool.false_or, Bool.or_true, Bool.true_or] at *; simp only [*, Bool.not_eq_true', Bool.not_eq_false', Bool.not_true, Bool.not_false, Bool.and_false, Bool.false_and, Bool.and_true, Bool.true_and, Bool.or_false, Bool.false_or, Bool.or_true, Bool.true_or, inB]; done) | (simp_all [inB]; done) | (simp_all [inB]; omega)))
def e_l1In : Ent Try.prog := .flat 47 (flatSem l1InF) ⟨_, Try.func47, rfl, by kernel_rfl⟩ l1In_sound

theorem within_sound : SoundQ Try.prog 33 (flatSem l1InF) := flat_sound (env_ok (N := Try.f33.ntmps) (l := []) (live := [])) Try.func33 (by
  intro args r h
  unfold l1InF at h
  split at h <;> cases h
  refine ⟨rfl, rfl, ?_⟩
  conv => whnf
  repeat' ((first | refine chk_intro (lexF_ok (by kernel_rfl)) ?_ | refine bsplit (fun h => ?_) (fun h => ?_) | refine Or.inl (Exists.intro 6 ?_)) <;> conv => whnf)
  all_goals (first | rfl | (simp only [Bool.not_eq_true', Bool.not_eq_false', Bool.not_true, Bool.not_false, Bool.and_false, Bool.false_and, Bool.and_true, Bool.true_and, Bool.or_false, Bool.false_or, Bool.or_true, Bool.true_or] at *; simp only [*, Bool.not_eq_true', Bool.not_eq_false', Bool.not_true, Bool.not_false, Bool.and_false, Bool.false_and, Bool.and_true, Bool.true_and, Bool.or_false, Bool.false_or, Bool.or_true, Bool.true_or, inB]; done) | (simp_all [inB]; done) | (simp_all [inB]; omega)))
def e_within : Ent Try.prog := .flat 33 (flatSem l1InF) ⟨_, Try.func33, rfl, by kernel_rfl⟩ within_sound


def kitB (a b c d : Int) : Bool := inB a 0 30 && inB b 0 30 && inB c 0 30 && inB d 0 30 && (decide (a > 0) || decide (b > 0) || decide (c > 0) || decide (d > 0))
def kitF : List Value → Option Value
  | [.agg ⟨[.int .i64 a, .int .i64 b, .int .i64 c, .int .i64 d]⟩] => some (.bool (kitB a b c d))
  | _ => none
theorem l2Kit_sound : SoundQ Try.prog 55 (flatSem kitF) := flat_sound (env_ok (N := Try.f55.ntmps) (l := [e_l1In]) (live := [])) Try.func55 (by
  intro args r h
  unfold kitF at h
  split at h <;> cases h
  refine ⟨rfl, rfl, ?_⟩
  conv => whnf
  repeat' ((first | refine chk_intro (lexF_ok (by kernel_rfl)) ?_ | refine bsplit (fun h => ?_) (fun h => ?_) | refine Or.inl (Exists.intro 6 ?_)) <;> conv => whnf)
  all_goals (first | rfl | (simp only [Bool.not_eq_true', Bool.not_eq_false', Bool.not_true, Bool.not_false, Bool.and_false, Bool.false_and, Bool.and_true, Bool.true_and, Bool.or_false, Bool.false_or, Bool.or_true, Bool.true_or] at *; simp only [*, Bool.not_eq_true', Bool.not_eq_false', Bool.not_true, Bool.not_false, Bool.and_false, Bool.false_and, Bool.and_true, Bool.true_and, Bool.or_false, Bool.false_or, Bool.or_true, Bool.true_or, kitB]; done) | (simp_all [kitB]; done) | (simp_all [kitB]; omega)))
def e_l2Kit : Ent Try.prog := .flat 55 (flatSem kitF) ⟨_, Try.func55, rfl, by kernel_rfl⟩ l2Kit_sound

theorem IsKit_sound : SoundQ Try.prog 48 (flatSem kitF) := flat_sound (env_ok (N := Try.f48.ntmps) (l := [e_within]) (live := [])) Try.func48 (by
  intro args r h
  unfold kitF at h
  split at h <;> cases h
  refine ⟨rfl, rfl, ?_⟩
  conv => whnf
  repeat' ((first | refine chk_intro (lexF_ok (by kernel_rfl)) ?_ | refine bsplit (fun h => ?_) (fun h => ?_) | refine Or.inl (Exists.intro 6 ?_)) <;> conv => whnf)
  all_goals (first | rfl | (simp only [Bool.not_eq_true', Bool.not_eq_false', Bool.not_true, Bool.not_false, Bool.and_false, Bool.false_and, Bool.and_true, Bool.true_and, Bool.or_false, Bool.false_or, Bool.or_true, Bool.true_or] at *; simp only [*, Bool.not_eq_true', Bool.not_eq_false', Bool.not_true, Bool.not_false, Bool.and_false, Bool.false_and, Bool.and_true, Bool.true_and, Bool.or_false, Bool.false_or, Bool.or_true, Bool.true_or, kitB]; done) | (simp_all [kitB]; done) | (simp_all [kitB]; omega)))
def e_IsKit : Ent Try.prog := .flat 48 (flatSem kitF) ⟨_, Try.func48, rfl, by kernel_rfl⟩ IsKit_sound


def sandIn (a b c d p q r s : Int) : Bool := inB p 0 a && inB q 0 b && inB r 0 c && inB s 0 d
def sandB (a b c d p q r s : Int) : Bool := kitB a b c d && sandIn a b c d p q r s
def sandF : List Value → Option Value
  | [.agg ⟨[.int .i64 a, .int .i64 b, .int .i64 c, .int .i64 d]⟩, .agg ⟨[.int .i64 p, .int .i64 q, .int .i64 r, .int .i64 s]⟩] => some (.bool (sandB a b c d p q r s))
  | _ => none
def isSandF : List Value → Option Value
  | [.agg ⟨[.int .i64 a, .int .i64 b, .int .i64 c, .int .i64 d]⟩, .agg ⟨[.int .i64 p, .int .i64 q, .int .i64 r, .int .i64 s]⟩] => some (.bool (sandIn a b c d p q r s))
  | _ => none
theorem isSand_sound : SoundQ Try.prog 49 (flatSem isSandF) := flat_sound (env_ok (N := Try.f49.ntmps) (l := [e_within]) (live := [])) Try.func49 (by
  intro args r h
  unfold isSandF at h
  split at h <;> cases h
  refine ⟨rfl, rfl, ?_⟩
  conv => whnf
  repeat' ((first | refine chk_intro (lexF_ok (by kernel_rfl)) ?_ | refine bsplit (fun h => ?_) (fun h => ?_) | refine Or.inl (Exists.intro 6 ?_)) <;> conv => whnf)
  all_goals (first | rfl | (simp only [Bool.not_eq_true', Bool.not_eq_false', Bool.not_true, Bool.not_false, Bool.and_false, Bool.false_and, Bool.and_true, Bool.true_and, Bool.or_false, Bool.false_or, Bool.or_true, Bool.true_or] at *; simp only [*, Bool.not_eq_true', Bool.not_eq_false', Bool.not_true, Bool.not_false, Bool.and_false, Bool.false_and, Bool.and_true, Bool.true_and, Bool.or_false, Bool.false_or, Bool.or_true, Bool.true_or, sandIn]; done) | (simp_all [sandIn]; done) | (simp_all [sandIn]; omega)))
def e_isSand : Ent Try.prog := .flat 49 (flatSem isSandF) ⟨_, Try.func49, rfl, by kernel_rfl⟩ isSand_sound

theorem areSand_sound : SoundQ Try.prog 32 (flatSem sandF) := flat_sound (env_ok (N := Try.f32.ntmps) (l := [e_IsKit, e_isSand]) (live := [])) Try.func32 (by
  intro args r h
  unfold sandF at h
  split at h <;> cases h
  refine ⟨rfl, rfl, ?_⟩
  conv => whnf
  repeat' ((first | refine chk_intro (lexF_ok (by kernel_rfl)) ?_ | refine bsplit (fun h => ?_) (fun h => ?_) | refine Or.inl (Exists.intro 6 ?_)) <;> conv => whnf)
  all_goals (first | rfl | (simp only [Bool.not_eq_true', Bool.not_eq_false', Bool.not_true, Bool.not_false, Bool.and_false, Bool.false_and, Bool.and_true, Bool.true_and, Bool.or_false, Bool.false_or, Bool.or_true, Bool.true_or] at *; simp only [*, Bool.not_eq_true', Bool.not_eq_false', Bool.not_true, Bool.not_false, Bool.and_false, Bool.false_and, Bool.and_true, Bool.true_and, Bool.or_false, Bool.false_or, Bool.or_true, Bool.true_or, sandB]; done) | (simp_all [sandB]; done) | (simp_all [sandB]; omega)))
def e_areSand : Ent Try.prog := .flat 32 (flatSem sandF) ⟨_, Try.func32, rfl, by kernel_rfl⟩ areSand_sound

end Go.Proofs.Ytjnolfmmlnnoeaa
