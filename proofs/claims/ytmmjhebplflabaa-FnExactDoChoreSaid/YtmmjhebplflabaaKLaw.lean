/- Kitchens and chores, as the laws copy them and hold them against each other. -/
import Derived.Test.YtmmjhebplflabaaKitch
import Derived.Test.YtmmjhebplflabaaSlices
set_option linter.unusedSimpArgs false
set_option linter.unusedVariables false
set_option maxRecDepth 100000
set_option maxHeartbeats 4000000
namespace Go.Proofs.Ytmmjhebplflabaa
open Go Go.Eng
theorem eqKit_sound : SoundQ Try.prog 67 (flatSem eqA4F) := flat_sound (env_ok (N := Try.f67.ntmps) (l := [e_eqIntA4]) (live := []) (ord := [])) Try.func67 (by
  intro args r h
  unfold eqA4F at h
  split at h <;> cases h
  refine ⟨rfl, rfl, ?_⟩
  conv => whnf
  refine body_in (by kernel_rfl) (fun K' hK => ?_)
  repeat' (first | (with_reducible refine Step.mk ?_) | ((with_reducible refine a_cons ?_); conv => whnf) | (with_reducible refine k_reg ?_) | (with_reducible refine a_nil ?_) | (with_reducible refine k_seq ?_) | (with_reducible refine w_seq ?_) | (with_reducible refine w_reg ?_) | ((with_reducible refine c_cons ?_); conv => whnf) | (with_reducible refine c_nil ?_) | ((with_reducible refine w_cond ?_); conv => whnf) | (with_reducible refine w_block ?_) | (with_reducible refine k_blk ?_) | (with_reducible refine w_exit ?_) | (with_reducible refine w_ret ?_) | (with_reducible refine w_skip ?_) | (with_reducible refine k_seqe ?_) | (with_reducible refine k_seqr ?_) | (with_reducible refine k_blkr ?_) | (with_reducible refine k_rnde ?_) | (with_reducible refine k_rndr ?_) | (with_reducible refine k_ale ?_) | (with_reducible refine k_alr ?_) | ((with_reducible refine k_blke ?_); conv => whnf) | ((with_reducible refine k_rndn ?_); conv => whnf) | ((with_reducible refine k_aln ?_); conv => whnf) | ((with_reducible refine k_lam ?_); conv => whnf) | ((with_reducible refine w_loop ?_); conv => whnf) | (with_reducible refine w_aloop ?_) | ((with_reducible refine q_cons ?_); conv => whnf) | (with_reducible refine q_nil ?_) | ((with_reducible refine w_isd ?_); first | refine dg_drawn rfl ?_ | refine dg_quiet rfl ?_) | (with_reducible refine body_in (by kernel_rfl) (fun K' hK => ?_)) | (with_reducible refine kout (by assumption) ?_) | (refine bsplit (fun h => ?_) (fun h => ?_) <;> conv => whnf) | (with_reducible refine Or.inl (Exists.intro 6 ?_)))
  all_goals (first | rfl | (simp only [Bool.not_eq_true', Bool.not_eq_false', Bool.not_true, Bool.not_false, Bool.and_false, Bool.false_and, Bool.and_true, Bool.true_and, Bool.or_false, Bool.false_or, Bool.or_true, Bool.true_or] at *; simp only [*, Bool.not_eq_true', Bool.not_eq_false', Bool.not_true, Bool.not_false, Bool.and_false, Bool.false_and, Bool.and_true, Bool.true_and, Bool.or_false, Bool.false_or, Bool.or_true, Bool.true_or]; done) | (simp_all []; done) | (simp_all []; omega)))
def e_eqKit : Ent Try.prog := .flat 67 eqA4F ⟨_, Try.func67, rfl, by kernel_rfl⟩ eqKit_sound

def eqKitchenF : List Value → Option Value
  | [.agg ⟨[.int .i64 a0, .int .i64 a1, .int .i64 a2, .int .i64 a3, .int .i64 a4, .int .i64 a5, .int .i64 a6, .int .i64 a7, .int .i64 a8, .int .i64 a9, .int .i64 a10]⟩, .agg ⟨[.int .i64 b0, .int .i64 b1, .int .i64 b2, .int .i64 b3, .int .i64 b4, .int .i64 b5, .int .i64 b6, .int .i64 b7, .int .i64 b8, .int .i64 b9, .int .i64 b10]⟩] => some (.bool ((a0 == b0 && a1 == b1 && a2 == b2 && a3 == b3) && (a4 == b4 && a5 == b5 && a6 == b6 && a7 == b7) && a8 == b8 && a9 == b9 && a10 == b10))
  | _ => none
theorem eqKitchen_sound : SoundQ Try.prog 19 (flatSem eqKitchenF) := flat_sound (env_ok (N := Try.f19.ntmps) (l := [e_eqKit, e_eqIntA4]) (live := []) (ord := [])) Try.func19 (by
  intro args r h
  unfold eqKitchenF at h
  split at h <;> cases h
  refine ⟨rfl, rfl, ?_⟩
  conv => whnf
  refine body_in (by kernel_rfl) (fun K' hK => ?_)
  repeat' (first | (with_reducible refine Step.mk ?_) | ((with_reducible refine a_cons ?_); conv => whnf) | (with_reducible refine k_reg ?_) | (with_reducible refine a_nil ?_) | (with_reducible refine k_seq ?_) | (with_reducible refine w_seq ?_) | (with_reducible refine w_reg ?_) | ((with_reducible refine c_cons ?_); conv => whnf) | (with_reducible refine c_nil ?_) | ((with_reducible refine w_cond ?_); conv => whnf) | (with_reducible refine w_block ?_) | (with_reducible refine k_blk ?_) | (with_reducible refine w_exit ?_) | (with_reducible refine w_ret ?_) | (with_reducible refine w_skip ?_) | (with_reducible refine k_seqe ?_) | (with_reducible refine k_seqr ?_) | (with_reducible refine k_blkr ?_) | (with_reducible refine k_rnde ?_) | (with_reducible refine k_rndr ?_) | (with_reducible refine k_ale ?_) | (with_reducible refine k_alr ?_) | ((with_reducible refine k_blke ?_); conv => whnf) | ((with_reducible refine k_rndn ?_); conv => whnf) | ((with_reducible refine k_aln ?_); conv => whnf) | ((with_reducible refine k_lam ?_); conv => whnf) | ((with_reducible refine w_loop ?_); conv => whnf) | (with_reducible refine w_aloop ?_) | ((with_reducible refine q_cons ?_); conv => whnf) | (with_reducible refine q_nil ?_) | ((with_reducible refine w_isd ?_); first | refine dg_drawn rfl ?_ | refine dg_quiet rfl ?_) | (with_reducible refine body_in (by kernel_rfl) (fun K' hK => ?_)) | (with_reducible refine kout (by assumption) ?_) | (refine bsplit (fun h => ?_) (fun h => ?_) <;> conv => whnf) | (with_reducible refine Or.inl (Exists.intro 6 ?_)))
  all_goals (first | rfl | (simp only [Bool.not_eq_true', Bool.not_eq_false', Bool.not_true, Bool.not_false, Bool.and_false, Bool.false_and, Bool.and_true, Bool.true_and, Bool.or_false, Bool.false_or, Bool.or_true, Bool.true_or] at *; simp only [*, Bool.not_eq_true', Bool.not_eq_false', Bool.not_true, Bool.not_false, Bool.and_false, Bool.false_and, Bool.and_true, Bool.true_and, Bool.or_false, Bool.false_or, Bool.or_true, Bool.true_or]; done) | (simp_all []; done) | (simp_all []; omega)))
def e_eqKitchen : Ent Try.prog := .flat 19 eqKitchenF ⟨_, Try.func19, rfl, by kernel_rfl⟩ eqKitchen_sound

end Go.Proofs.Ytmmjhebplflabaa
