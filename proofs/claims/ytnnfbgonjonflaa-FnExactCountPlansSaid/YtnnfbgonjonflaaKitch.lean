/- Kits, sand and kitchens: what the small functions on them compute. -/
import Derived.Test.YtnnfbgonjonflaaGlass
set_option linter.unusedSimpArgs false
set_option linter.unusedVariables false
set_option maxRecDepth 100000
set_option maxHeartbeats 4000000
namespace Go.Proofs.Ytnnfbgonjonflaa
open Go Go.Eng

theorem l2Sand_sound : SoundQ Try.prog 199 (flatSem sandF) := flat_sound (env_ok (N := Try.f199.ntmps) (l := [e_l1In, e_l2Kit]) (live := []) (ord := [(4, .draw [(0, []), (1, []), (2, []), (3, []), (4, []), (5, []), (6, []), (7, []), (8, [])] [])])) Try.func199 (by
  intro args r h
  unfold sandF at h
  split at h <;> cases h
  refine ⟨rfl, rfl, ?_⟩
  conv => whnf
  refine body_in (by kernel_rfl) (fun K' hK => ?_)
  repeat' (first | (with_reducible refine Step.mk ?_) | ((with_reducible refine a_cons ?_); conv => whnf) | (with_reducible refine k_reg ?_) | (with_reducible refine a_nil ?_) | (with_reducible refine k_seq ?_) | (with_reducible refine w_seq ?_) | (with_reducible refine w_reg ?_) | ((with_reducible refine c_cons ?_); conv => whnf) | (with_reducible refine c_nil ?_) | ((with_reducible refine w_cond ?_); conv => whnf) | (with_reducible refine w_block ?_) | (with_reducible refine k_blk ?_) | (with_reducible refine w_exit ?_) | (with_reducible refine w_ret ?_) | (with_reducible refine w_skip ?_) | (with_reducible refine k_seqe ?_) | (with_reducible refine k_seqr ?_) | (with_reducible refine k_blkr ?_) | (with_reducible refine k_rnde ?_) | (with_reducible refine k_rndr ?_) | (with_reducible refine k_ale ?_) | (with_reducible refine k_alr ?_) | ((with_reducible refine k_blke ?_); conv => whnf) | ((with_reducible refine k_rndn ?_); conv => whnf) | ((with_reducible refine k_aln ?_); conv => whnf) | ((with_reducible refine k_lam ?_); conv => whnf) | ((with_reducible refine w_loop ?_); conv => whnf) | (with_reducible refine w_aloop ?_) | ((with_reducible refine q_cons ?_); conv => whnf) | (with_reducible refine q_nil ?_) | ((with_reducible refine w_isd ?_); first | refine dg_drawn rfl ?_ | refine dg_quiet rfl ?_ | refine dg_tree rfl ?_) | (with_reducible refine t_leaf ?_) | (with_reducible refine t_two ?_ ?_) | (with_reducible refine body_in (by kernel_rfl) (fun K' hK => ?_)) | (with_reducible refine kout (by assumption) ?_) | (refine bsplit (fun h => ?_) (fun h => ?_) <;> conv => whnf) | (with_reducible refine Or.inl (Exists.intro 6 ?_)))
  all_goals (first | rfl | (simp only [Bool.not_eq_true', Bool.not_eq_false', Bool.not_true, Bool.not_false, Bool.and_false, Bool.false_and, Bool.and_true, Bool.true_and, Bool.or_false, Bool.false_or, Bool.or_true, Bool.true_or] at *; simp only [*, Bool.not_eq_true', Bool.not_eq_false', Bool.not_true, Bool.not_false, Bool.and_false, Bool.false_and, Bool.and_true, Bool.true_and, Bool.or_false, Bool.false_or, Bool.or_true, Bool.true_or, sandB, sandIn]; done) | (simp_all [sandB, sandIn]; done) | (simp_all [sandB, sandIn]; omega)))
def e_l2Sand : Ent Try.prog := .flat 199 sandF ⟨_, Try.func199, rfl, by kernel_rfl⟩ l2Sand_sound


def kitchenB (a b c d p q r s clock mark count : Int) : Bool :=
  sandB a b c d p q r s && inB clock 0 100000 && inB mark 0 clock && inB count 0 1000
def kitchenF : List Value → Option Value
  | [.agg ⟨[.int .i64 a, .int .i64 b, .int .i64 c, .int .i64 d, .int .i64 p, .int .i64 q, .int .i64 r, .int .i64 s, .int .i64 clock, .int .i64 mark, .int .i64 count]⟩] =>
    some (.bool (kitchenB a b c d p q r s clock mark count))
  | _ => none
theorem l12Good_sound : SoundQ Try.prog 135 (flatSem kitchenF) := flat_sound (env_ok (N := Try.f135.ntmps) (l := [e_l2Sand, e_l1In]) (live := []) (ord := [])) Try.func135 (by
  intro args r h
  unfold kitchenF at h
  split at h <;> cases h
  refine ⟨rfl, rfl, ?_⟩
  conv => whnf
  refine body_in (by kernel_rfl) (fun K' hK => ?_)
  repeat' (first | (with_reducible refine Step.mk ?_) | ((with_reducible refine a_cons ?_); conv => whnf) | (with_reducible refine k_reg ?_) | (with_reducible refine a_nil ?_) | (with_reducible refine k_seq ?_) | (with_reducible refine w_seq ?_) | (with_reducible refine w_reg ?_) | ((with_reducible refine c_cons ?_); conv => whnf) | (with_reducible refine c_nil ?_) | ((with_reducible refine w_cond ?_); conv => whnf) | (with_reducible refine w_block ?_) | (with_reducible refine k_blk ?_) | (with_reducible refine w_exit ?_) | (with_reducible refine w_ret ?_) | (with_reducible refine w_skip ?_) | (with_reducible refine k_seqe ?_) | (with_reducible refine k_seqr ?_) | (with_reducible refine k_blkr ?_) | (with_reducible refine k_rnde ?_) | (with_reducible refine k_rndr ?_) | (with_reducible refine k_ale ?_) | (with_reducible refine k_alr ?_) | ((with_reducible refine k_blke ?_); conv => whnf) | ((with_reducible refine k_rndn ?_); conv => whnf) | ((with_reducible refine k_aln ?_); conv => whnf) | ((with_reducible refine k_lam ?_); conv => whnf) | ((with_reducible refine w_loop ?_); conv => whnf) | (with_reducible refine w_aloop ?_) | ((with_reducible refine q_cons ?_); conv => whnf) | (with_reducible refine q_nil ?_) | ((with_reducible refine w_isd ?_); first | refine dg_drawn rfl ?_ | refine dg_quiet rfl ?_ | refine dg_tree rfl ?_) | (with_reducible refine t_leaf ?_) | (with_reducible refine t_two ?_ ?_) | (with_reducible refine body_in (by kernel_rfl) (fun K' hK => ?_)) | (with_reducible refine kout (by assumption) ?_) | (refine bsplit (fun h => ?_) (fun h => ?_) <;> conv => whnf) | (with_reducible refine Or.inl (Exists.intro 6 ?_)))
  all_goals (first | rfl | (simp only [Bool.not_eq_true', Bool.not_eq_false', Bool.not_true, Bool.not_false, Bool.and_false, Bool.false_and, Bool.and_true, Bool.true_and, Bool.or_false, Bool.false_or, Bool.or_true, Bool.true_or] at *; simp only [*, Bool.not_eq_true', Bool.not_eq_false', Bool.not_true, Bool.not_false, Bool.and_false, Bool.false_and, Bool.and_true, Bool.true_and, Bool.or_false, Bool.false_or, Bool.or_true, Bool.true_or, kitchenB]; done) | (simp_all [kitchenB]; done) | (simp_all [kitchenB]; omega)))
def e_l12Good : Ent Try.prog := .flat 135 kitchenF ⟨_, Try.func135, rfl, by kernel_rfl⟩ l12Good_sound

theorem sIsKitchen_sound : SoundQ Try.prog 51 (flatSem kitchenF) := flat_sound (env_ok (N := Try.f51.ntmps) (l := [e_l12Good]) (live := []) (ord := [])) Try.func51 (by
  intro args r h
  unfold kitchenF at h
  split at h <;> cases h
  refine ⟨rfl, rfl, ?_⟩
  conv => whnf
  refine body_in (by kernel_rfl) (fun K' hK => ?_)
  repeat' (first | (with_reducible refine Step.mk ?_) | ((with_reducible refine a_cons ?_); conv => whnf) | (with_reducible refine k_reg ?_) | (with_reducible refine a_nil ?_) | (with_reducible refine k_seq ?_) | (with_reducible refine w_seq ?_) | (with_reducible refine w_reg ?_) | ((with_reducible refine c_cons ?_); conv => whnf) | (with_reducible refine c_nil ?_) | ((with_reducible refine w_cond ?_); conv => whnf) | (with_reducible refine w_block ?_) | (with_reducible refine k_blk ?_) | (with_reducible refine w_exit ?_) | (with_reducible refine w_ret ?_) | (with_reducible refine w_skip ?_) | (with_reducible refine k_seqe ?_) | (with_reducible refine k_seqr ?_) | (with_reducible refine k_blkr ?_) | (with_reducible refine k_rnde ?_) | (with_reducible refine k_rndr ?_) | (with_reducible refine k_ale ?_) | (with_reducible refine k_alr ?_) | ((with_reducible refine k_blke ?_); conv => whnf) | ((with_reducible refine k_rndn ?_); conv => whnf) | ((with_reducible refine k_aln ?_); conv => whnf) | ((with_reducible refine k_lam ?_); conv => whnf) | ((with_reducible refine w_loop ?_); conv => whnf) | (with_reducible refine w_aloop ?_) | ((with_reducible refine q_cons ?_); conv => whnf) | (with_reducible refine q_nil ?_) | ((with_reducible refine w_isd ?_); first | refine dg_drawn rfl ?_ | refine dg_quiet rfl ?_ | refine dg_tree rfl ?_) | (with_reducible refine t_leaf ?_) | (with_reducible refine t_two ?_ ?_) | (with_reducible refine body_in (by kernel_rfl) (fun K' hK => ?_)) | (with_reducible refine kout (by assumption) ?_) | (refine bsplit (fun h => ?_) (fun h => ?_) <;> conv => whnf) | (with_reducible refine Or.inl (Exists.intro 6 ?_)))
  all_goals (first | rfl | (simp only [Bool.not_eq_true', Bool.not_eq_false', Bool.not_true, Bool.not_false, Bool.and_false, Bool.false_and, Bool.and_true, Bool.true_and, Bool.or_false, Bool.false_or, Bool.or_true, Bool.true_or] at *; simp only [*, Bool.not_eq_true', Bool.not_eq_false', Bool.not_true, Bool.not_false, Bool.and_false, Bool.false_and, Bool.and_true, Bool.true_and, Bool.or_false, Bool.false_or, Bool.or_true, Bool.true_or, kitchenB]; done) | (simp_all [kitchenB]; done) | (simp_all [kitchenB]; omega)))
def e_sIsKitchen : Ent Try.prog := .flat 51 kitchenF ⟨_, Try.func51, rfl, by kernel_rfl⟩ sIsKitchen_sound

theorem IsKitchen_sound : SoundQ Try.prog 50 (flatSem kitchenF) := flat_sound (env_ok (N := Try.f50.ntmps) (l := [e_areSand, e_within]) (live := []) (ord := [])) Try.func50 (by
  intro args r h
  unfold kitchenF at h
  split at h <;> cases h
  refine ⟨rfl, rfl, ?_⟩
  conv => whnf
  refine body_in (by kernel_rfl) (fun K' hK => ?_)
  repeat' (first | (with_reducible refine Step.mk ?_) | ((with_reducible refine a_cons ?_); conv => whnf) | (with_reducible refine k_reg ?_) | (with_reducible refine a_nil ?_) | (with_reducible refine k_seq ?_) | (with_reducible refine w_seq ?_) | (with_reducible refine w_reg ?_) | ((with_reducible refine c_cons ?_); conv => whnf) | (with_reducible refine c_nil ?_) | ((with_reducible refine w_cond ?_); conv => whnf) | (with_reducible refine w_block ?_) | (with_reducible refine k_blk ?_) | (with_reducible refine w_exit ?_) | (with_reducible refine w_ret ?_) | (with_reducible refine w_skip ?_) | (with_reducible refine k_seqe ?_) | (with_reducible refine k_seqr ?_) | (with_reducible refine k_blkr ?_) | (with_reducible refine k_rnde ?_) | (with_reducible refine k_rndr ?_) | (with_reducible refine k_ale ?_) | (with_reducible refine k_alr ?_) | ((with_reducible refine k_blke ?_); conv => whnf) | ((with_reducible refine k_rndn ?_); conv => whnf) | ((with_reducible refine k_aln ?_); conv => whnf) | ((with_reducible refine k_lam ?_); conv => whnf) | ((with_reducible refine w_loop ?_); conv => whnf) | (with_reducible refine w_aloop ?_) | ((with_reducible refine q_cons ?_); conv => whnf) | (with_reducible refine q_nil ?_) | ((with_reducible refine w_isd ?_); first | refine dg_drawn rfl ?_ | refine dg_quiet rfl ?_ | refine dg_tree rfl ?_) | (with_reducible refine t_leaf ?_) | (with_reducible refine t_two ?_ ?_) | (with_reducible refine body_in (by kernel_rfl) (fun K' hK => ?_)) | (with_reducible refine kout (by assumption) ?_) | (refine bsplit (fun h => ?_) (fun h => ?_) <;> conv => whnf) | (with_reducible refine Or.inl (Exists.intro 6 ?_)))
  all_goals (first | rfl | (simp only [Bool.not_eq_true', Bool.not_eq_false', Bool.not_true, Bool.not_false, Bool.and_false, Bool.false_and, Bool.and_true, Bool.true_and, Bool.or_false, Bool.false_or, Bool.or_true, Bool.true_or] at *; simp only [*, Bool.not_eq_true', Bool.not_eq_false', Bool.not_true, Bool.not_false, Bool.and_false, Bool.false_and, Bool.and_true, Bool.true_and, Bool.or_false, Bool.false_or, Bool.or_true, Bool.true_or, kitchenB]; done) | (simp_all [kitchenB]; done) | (simp_all [kitchenB]; omega)))
def e_IsKitchen : Ent Try.prog := .flat 50 kitchenF ⟨_, Try.func50, rfl, by kernel_rfl⟩ IsKitchen_sound


def copy4F : List Value → Option Value
  | [.agg ⟨[.int .i64 a, .int .i64 b, .int .i64 c, .int .i64 d]⟩] => some (.agg ⟨[.int .i64 a, .int .i64 b, .int .i64 c, .int .i64 d]⟩)
  | _ => none
theorem toIntA4_sound : SoundQ Try.prog 31 (flatSem copy4F) := flat_sound (env_ok (N := Try.f31.ntmps) (l := []) (live := []) (ord := [])) Try.func31 (by
  intro args r h
  unfold copy4F at h
  split at h <;> cases h
  refine ⟨rfl, rfl, ?_⟩
  conv => whnf
  refine body_in (by kernel_rfl) (fun K' hK => ?_)
  repeat' (first | (with_reducible refine Step.mk ?_) | ((with_reducible refine a_cons ?_); conv => whnf) | (with_reducible refine k_reg ?_) | (with_reducible refine a_nil ?_) | (with_reducible refine k_seq ?_) | (with_reducible refine w_seq ?_) | (with_reducible refine w_reg ?_) | ((with_reducible refine c_cons ?_); conv => whnf) | (with_reducible refine c_nil ?_) | ((with_reducible refine w_cond ?_); conv => whnf) | (with_reducible refine w_block ?_) | (with_reducible refine k_blk ?_) | (with_reducible refine w_exit ?_) | (with_reducible refine w_ret ?_) | (with_reducible refine w_skip ?_) | (with_reducible refine k_seqe ?_) | (with_reducible refine k_seqr ?_) | (with_reducible refine k_blkr ?_) | (with_reducible refine k_rnde ?_) | (with_reducible refine k_rndr ?_) | (with_reducible refine k_ale ?_) | (with_reducible refine k_alr ?_) | ((with_reducible refine k_blke ?_); conv => whnf) | ((with_reducible refine k_rndn ?_); conv => whnf) | ((with_reducible refine k_aln ?_); conv => whnf) | ((with_reducible refine k_lam ?_); conv => whnf) | ((with_reducible refine w_loop ?_); conv => whnf) | (with_reducible refine w_aloop ?_) | ((with_reducible refine q_cons ?_); conv => whnf) | (with_reducible refine q_nil ?_) | ((with_reducible refine w_isd ?_); first | refine dg_drawn rfl ?_ | refine dg_quiet rfl ?_ | refine dg_tree rfl ?_) | (with_reducible refine t_leaf ?_) | (with_reducible refine t_two ?_ ?_) | (with_reducible refine body_in (by kernel_rfl) (fun K' hK => ?_)) | (with_reducible refine kout (by assumption) ?_) | (refine bsplit (fun h => ?_) (fun h => ?_) <;> conv => whnf) | (with_reducible refine Or.inl (Exists.intro 6 ?_)))
  all_goals (first | rfl | (simp only [Bool.not_eq_true', Bool.not_eq_false', Bool.not_true, Bool.not_false, Bool.and_false, Bool.false_and, Bool.and_true, Bool.true_and, Bool.or_false, Bool.false_or, Bool.or_true, Bool.true_or] at *; simp only [*, Bool.not_eq_true', Bool.not_eq_false', Bool.not_true, Bool.not_false, Bool.and_false, Bool.false_and, Bool.and_true, Bool.true_and, Bool.or_false, Bool.false_or, Bool.or_true, Bool.true_or]; done) | (simp_all []; done) | (simp_all []; omega)))
def e_toIntA4 : Ent Try.prog := .flat 31 copy4F ⟨_, Try.func31, rfl, by kernel_rfl⟩ toIntA4_sound

theorem toKit_sound : SoundQ Try.prog 15 (flatSem copy4F) := flat_sound (env_ok (N := Try.f15.ntmps) (l := [e_toIntA4]) (live := []) (ord := [])) Try.func15 (by
  intro args r h
  unfold copy4F at h
  split at h <;> cases h
  refine ⟨rfl, rfl, ?_⟩
  conv => whnf
  refine body_in (by kernel_rfl) (fun K' hK => ?_)
  repeat' (first | (with_reducible refine Step.mk ?_) | ((with_reducible refine a_cons ?_); conv => whnf) | (with_reducible refine k_reg ?_) | (with_reducible refine a_nil ?_) | (with_reducible refine k_seq ?_) | (with_reducible refine w_seq ?_) | (with_reducible refine w_reg ?_) | ((with_reducible refine c_cons ?_); conv => whnf) | (with_reducible refine c_nil ?_) | ((with_reducible refine w_cond ?_); conv => whnf) | (with_reducible refine w_block ?_) | (with_reducible refine k_blk ?_) | (with_reducible refine w_exit ?_) | (with_reducible refine w_ret ?_) | (with_reducible refine w_skip ?_) | (with_reducible refine k_seqe ?_) | (with_reducible refine k_seqr ?_) | (with_reducible refine k_blkr ?_) | (with_reducible refine k_rnde ?_) | (with_reducible refine k_rndr ?_) | (with_reducible refine k_ale ?_) | (with_reducible refine k_alr ?_) | ((with_reducible refine k_blke ?_); conv => whnf) | ((with_reducible refine k_rndn ?_); conv => whnf) | ((with_reducible refine k_aln ?_); conv => whnf) | ((with_reducible refine k_lam ?_); conv => whnf) | ((with_reducible refine w_loop ?_); conv => whnf) | (with_reducible refine w_aloop ?_) | ((with_reducible refine q_cons ?_); conv => whnf) | (with_reducible refine q_nil ?_) | ((with_reducible refine w_isd ?_); first | refine dg_drawn rfl ?_ | refine dg_quiet rfl ?_ | refine dg_tree rfl ?_) | (with_reducible refine t_leaf ?_) | (with_reducible refine t_two ?_ ?_) | (with_reducible refine body_in (by kernel_rfl) (fun K' hK => ?_)) | (with_reducible refine kout (by assumption) ?_) | (refine bsplit (fun h => ?_) (fun h => ?_) <;> conv => whnf) | (with_reducible refine Or.inl (Exists.intro 6 ?_)))
  all_goals (first | rfl | (simp only [Bool.not_eq_true', Bool.not_eq_false', Bool.not_true, Bool.not_false, Bool.and_false, Bool.false_and, Bool.and_true, Bool.true_and, Bool.or_false, Bool.false_or, Bool.or_true, Bool.true_or] at *; simp only [*, Bool.not_eq_true', Bool.not_eq_false', Bool.not_true, Bool.not_false, Bool.and_false, Bool.false_and, Bool.and_true, Bool.true_and, Bool.or_false, Bool.false_or, Bool.or_true, Bool.true_or]; done) | (simp_all []; done) | (simp_all []; omega)))
def e_toKit : Ent Try.prog := .flat 15 copy4F ⟨_, Try.func15, rfl, by kernel_rfl⟩ toKit_sound

def copy11F : List Value → Option Value
  | [.agg ⟨[.int .i64 a, .int .i64 b, .int .i64 c, .int .i64 d, .int .i64 p, .int .i64 q, .int .i64 r, .int .i64 s, .int .i64 clock, .int .i64 mark, .int .i64 count]⟩] =>
    some (.agg ⟨[.int .i64 a, .int .i64 b, .int .i64 c, .int .i64 d, .int .i64 p, .int .i64 q, .int .i64 r, .int .i64 s, .int .i64 clock, .int .i64 mark, .int .i64 count]⟩)
  | _ => none
end Go.Proofs.Ytnnfbgonjonflaa
