/- Kits, sand and kitchens: what the small functions on them compute. -/
import Derived.Test.YtjnolfmmlnnoeaaGlass
set_option linter.unusedSimpArgs false
set_option linter.unusedVariables false
set_option maxRecDepth 100000
namespace Go.Proofs.Ytjnolfmmlnnoeaa
open Go Go.Eng

theorem l2Sand_sound : SoundQ Try.prog 46 (flatSem sandF) := flat_sound (env_ok (N := Try.f46.ntmps) (l := [e_l1In, e_l2Kit])) Try.func46 (by
  intro args r h
  unfold sandF at h
  split at h <;> cases h
  refine ⟨rfl, rfl, ?_⟩
  conv => whnf
  repeat' ((first | refine chk_intro (lexF_ok (by kernel_rfl)) ?_ | refine bsplit (fun h => ?_) (fun h => ?_) | refine Exists.intro 6 ?_) <;> conv => whnf)
  all_goals (first | rfl | (simp_all [sandB, sandIn]; done) | (simp_all [sandB, sandIn]; omega)))
def e_l2Sand : Ent Try.prog := .flat 46 (flatSem sandF) ⟨_, Try.func46, rfl, by kernel_rfl⟩ l2Sand_sound


def kitchenB (a b c d p q r s clock mark count : Int) : Bool :=
  sandB a b c d p q r s && inB clock 0 100000 && inB mark 0 clock && inB count 0 1000
def kitchenF : List Value → Option Value
  | [.agg ⟨[.int .i64 a, .int .i64 b, .int .i64 c, .int .i64 d, .int .i64 p, .int .i64 q, .int .i64 r, .int .i64 s, .int .i64 clock, .int .i64 mark, .int .i64 count]⟩] =>
    some (.bool (kitchenB a b c d p q r s clock mark count))
  | _ => none
theorem l12Good_sound : SoundQ Try.prog 30 (flatSem kitchenF) := flat_sound (env_ok (N := Try.f30.ntmps) (l := [e_l2Sand, e_l1In])) Try.func30 (by
  intro args r h
  unfold kitchenF at h
  split at h <;> cases h
  refine ⟨rfl, rfl, ?_⟩
  conv => whnf
  repeat' ((first | refine chk_intro (lexF_ok (by kernel_rfl)) ?_ | refine bsplit (fun h => ?_) (fun h => ?_) | refine Exists.intro 6 ?_) <;> conv => whnf)
  all_goals (first | rfl | (simp_all [kitchenB]; done) | (simp_all [kitchenB]; omega)))
def e_l12Good : Ent Try.prog := .flat 30 (flatSem kitchenF) ⟨_, Try.func30, rfl, by kernel_rfl⟩ l12Good_sound

theorem sIsKitchen_sound : SoundQ Try.prog 9 (flatSem kitchenF) := flat_sound (env_ok (N := Try.f9.ntmps) (l := [e_l12Good])) Try.func9 (by
  intro args r h
  unfold kitchenF at h
  split at h <;> cases h
  refine ⟨rfl, rfl, ?_⟩
  conv => whnf
  repeat' ((first | refine chk_intro (lexF_ok (by kernel_rfl)) ?_ | refine bsplit (fun h => ?_) (fun h => ?_) | refine Exists.intro 6 ?_) <;> conv => whnf)
  all_goals (first | rfl | (simp_all [kitchenB]; done) | (simp_all [kitchenB]; omega)))
def e_sIsKitchen : Ent Try.prog := .flat 9 (flatSem kitchenF) ⟨_, Try.func9, rfl, by kernel_rfl⟩ sIsKitchen_sound

theorem IsKitchen_sound : SoundQ Try.prog 11 (flatSem kitchenF) := flat_sound (env_ok (N := Try.f11.ntmps) (l := [e_areSand, e_within])) Try.func11 (by
  intro args r h
  unfold kitchenF at h
  split at h <;> cases h
  refine ⟨rfl, rfl, ?_⟩
  conv => whnf
  repeat' ((first | refine chk_intro (lexF_ok (by kernel_rfl)) ?_ | refine bsplit (fun h => ?_) (fun h => ?_) | refine Exists.intro 6 ?_) <;> conv => whnf)
  all_goals (first | rfl | (simp_all [kitchenB]; done) | (simp_all [kitchenB]; omega)))
def e_IsKitchen : Ent Try.prog := .flat 11 (flatSem kitchenF) ⟨_, Try.func11, rfl, by kernel_rfl⟩ IsKitchen_sound


def copy4F : List Value → Option Value
  | [.agg ⟨[.int .i64 a, .int .i64 b, .int .i64 c, .int .i64 d]⟩] => some (.agg ⟨[.int .i64 a, .int .i64 b, .int .i64 c, .int .i64 d]⟩)
  | _ => none
theorem toIntA4_sound : SoundQ Try.prog 31 (flatSem copy4F) := flat_sound (env_ok (N := Try.f31.ntmps) (l := [])) Try.func31 (by
  intro args r h
  unfold copy4F at h
  split at h <;> cases h
  refine ⟨rfl, rfl, ?_⟩
  conv => whnf
  repeat' ((first | refine chk_intro (lexF_ok (by kernel_rfl)) ?_ | refine bsplit (fun h => ?_) (fun h => ?_) | refine Exists.intro 6 ?_) <;> conv => whnf)
  all_goals (first | rfl | (simp_all []; done) | (simp_all []; omega)))
def e_toIntA4 : Ent Try.prog := .flat 31 (flatSem copy4F) ⟨_, Try.func31, rfl, by kernel_rfl⟩ toIntA4_sound

theorem toKit_sound : SoundQ Try.prog 20 (flatSem copy4F) := flat_sound (env_ok (N := Try.f20.ntmps) (l := [e_toIntA4])) Try.func20 (by
  intro args r h
  unfold copy4F at h
  split at h <;> cases h
  refine ⟨rfl, rfl, ?_⟩
  conv => whnf
  repeat' ((first | refine chk_intro (lexF_ok (by kernel_rfl)) ?_ | refine bsplit (fun h => ?_) (fun h => ?_) | refine Exists.intro 6 ?_) <;> conv => whnf)
  all_goals (first | rfl | (simp_all []; done) | (simp_all []; omega)))
def e_toKit : Ent Try.prog := .flat 20 (flatSem copy4F) ⟨_, Try.func20, rfl, by kernel_rfl⟩ toKit_sound

def copy11F : List Value → Option Value
  | [.agg ⟨[.int .i64 a, .int .i64 b, .int .i64 c, .int .i64 d, .int .i64 p, .int .i64 q, .int .i64 r, .int .i64 s, .int .i64 clock, .int .i64 mark, .int .i64 count]⟩] =>
    some (.agg ⟨[.int .i64 a, .int .i64 b, .int .i64 c, .int .i64 d, .int .i64 p, .int .i64 q, .int .i64 r, .int .i64 s, .int .i64 clock, .int .i64 mark, .int .i64 count]⟩)
  | _ => none
theorem toKitchen_sound : SoundQ Try.prog 10 (flatSem copy11F) := flat_sound (env_ok (N := Try.f10.ntmps) (l := [e_toKit, e_toIntA4])) Try.func10 (by
  intro args r h
  unfold copy11F at h
  split at h <;> cases h
  refine ⟨rfl, rfl, ?_⟩
  conv => whnf
  repeat' ((first | refine chk_intro (lexF_ok (by kernel_rfl)) ?_ | refine bsplit (fun h => ?_) (fun h => ?_) | refine Exists.intro 6 ?_) <;> conv => whnf)
  all_goals (first | rfl | (simp_all []; done) | (simp_all []; omega)))
def e_toKitchen : Ent Try.prog := .flat 10 (flatSem copy11F) ⟨_, Try.func10, rfl, by kernel_rfl⟩ toKitchen_sound

end Go.Proofs.Ytjnolfmmlnnoeaa
