/- Sets, turning, passing, the next moment: what the small functions on a kit compute. -/
import Derived.Test.YtnnfbgonjonflaaKitch
set_option linter.unusedSimpArgs false
set_option linter.unusedVariables false
set_option maxRecDepth 100000
set_option maxHeartbeats 4000000
namespace Go.Proofs.Ytnnfbgonjonflaa
open Go Go.Eng

def allI (a b c d : Int) : Int := (if a > 0 then 1 else 0) + (if b > 0 then 2 else 0) + (if c > 0 then 4 else 0) + (if d > 0 then 8 else 0)
def allF : List Value → Option Value
  | [.agg ⟨[.int .i64 a, .int .i64 b, .int .i64 c, .int .i64 d]⟩] => some (.int .i64 (allI a b c d))
  | _ => none
theorem l2All_sound : SoundQ Try.prog 206 (flatSem allF) := flat_sound (env_ok (N := Try.f206.ntmps) (l := []) (live := []) (ord := [])) Try.func206 (by
  intro args r h
  unfold allF at h
  split at h <;> cases h
  refine ⟨rfl, rfl, ?_⟩
  conv => whnf
  refine body_in (by kernel_rfl) (fun K' hK => ?_)
  repeat' (first | (with_reducible refine Step.mk ?_) | ((with_reducible refine a_cons ?_); conv => whnf) | (with_reducible refine k_reg ?_) | (with_reducible refine a_nil ?_) | (with_reducible refine k_seq ?_) | (with_reducible refine w_seq ?_) | (with_reducible refine w_reg ?_) | ((with_reducible refine c_cons ?_); conv => whnf) | (with_reducible refine c_nil ?_) | ((with_reducible refine w_cond ?_); conv => whnf) | (with_reducible refine w_block ?_) | (with_reducible refine k_blk ?_) | (with_reducible refine w_exit ?_) | (with_reducible refine w_ret ?_) | (with_reducible refine w_skip ?_) | (with_reducible refine k_seqe ?_) | (with_reducible refine k_seqr ?_) | (with_reducible refine k_blkr ?_) | (with_reducible refine k_rnde ?_) | (with_reducible refine k_rndr ?_) | (with_reducible refine k_ale ?_) | (with_reducible refine k_alr ?_) | ((with_reducible refine k_blke ?_); conv => whnf) | ((with_reducible refine k_rndn ?_); conv => whnf) | ((with_reducible refine k_aln ?_); conv => whnf) | ((with_reducible refine k_lam ?_); conv => whnf) | ((with_reducible refine w_loop ?_); conv => whnf) | (with_reducible refine w_aloop ?_) | ((with_reducible refine q_cons ?_); conv => whnf) | (with_reducible refine q_nil ?_) | ((with_reducible refine w_isd ?_); first | refine dg_drawn rfl ?_ | refine dg_quiet rfl ?_ | refine dg_tree rfl ?_) | (with_reducible refine t_leaf ?_) | (with_reducible refine t_two ?_ ?_) | (with_reducible refine body_in (by kernel_rfl) (fun K' hK => ?_)) | (with_reducible refine kout (by assumption) ?_) | (refine bsplit (fun h => ?_) (fun h => ?_) <;> conv => whnf) | (with_reducible refine Or.inl (Exists.intro 6 ?_)))
  all_goals (simp only [allI, *]; first | rfl | (simp_all; done) | (split <;> split <;> split <;> split <;> first | rfl | (simp_all; done) | omega)))
def e_l2All : Ent Try.prog := .flat 206 allF ⟨_, Try.func206, rfl, by kernel_rfl⟩ l2All_sound

theorem all_sound : SoundQ Try.prog 236 (flatSem allF) := flat_sound (env_ok (N := Try.f236.ntmps) (l := []) (live := []) (ord := [])) Try.func236 (by
  intro args r h
  unfold allF at h
  split at h <;> cases h
  refine ⟨rfl, rfl, ?_⟩
  conv => whnf
  refine body_in (by kernel_rfl) (fun K' hK => ?_)
  repeat' (first | (with_reducible refine Step.mk ?_) | ((with_reducible refine a_cons ?_); conv => whnf) | (with_reducible refine k_reg ?_) | (with_reducible refine a_nil ?_) | (with_reducible refine k_seq ?_) | (with_reducible refine w_seq ?_) | (with_reducible refine w_reg ?_) | ((with_reducible refine c_cons ?_); conv => whnf) | (with_reducible refine c_nil ?_) | ((with_reducible refine w_cond ?_); conv => whnf) | (with_reducible refine w_block ?_) | (with_reducible refine k_blk ?_) | (with_reducible refine w_exit ?_) | (with_reducible refine w_ret ?_) | (with_reducible refine w_skip ?_) | (with_reducible refine k_seqe ?_) | (with_reducible refine k_seqr ?_) | (with_reducible refine k_blkr ?_) | (with_reducible refine k_rnde ?_) | (with_reducible refine k_rndr ?_) | (with_reducible refine k_ale ?_) | (with_reducible refine k_alr ?_) | ((with_reducible refine k_blke ?_); conv => whnf) | ((with_reducible refine k_rndn ?_); conv => whnf) | ((with_reducible refine k_aln ?_); conv => whnf) | ((with_reducible refine k_lam ?_); conv => whnf) | ((with_reducible refine w_loop ?_); conv => whnf) | (with_reducible refine w_aloop ?_) | ((with_reducible refine q_cons ?_); conv => whnf) | (with_reducible refine q_nil ?_) | ((with_reducible refine w_isd ?_); first | refine dg_drawn rfl ?_ | refine dg_quiet rfl ?_ | refine dg_tree rfl ?_) | (with_reducible refine t_leaf ?_) | (with_reducible refine t_two ?_ ?_) | (with_reducible refine body_in (by kernel_rfl) (fun K' hK => ?_)) | (with_reducible refine kout (by assumption) ?_) | (refine bsplit (fun h => ?_) (fun h => ?_) <;> conv => whnf) | (with_reducible refine Or.inl (Exists.intro 6 ?_)))
  all_goals (simp only [allI, *]; first | rfl | (simp_all; done) | (split <;> split <;> split <;> split <;> first | rfl | (simp_all; done) | omega)))
def e_all : Ent Try.prog := .flat 236 allF ⟨_, Try.func236, rfl, by kernel_rfl⟩ all_sound


def andNot (x y : Int) : Int := IntKind.i64.wrap (BitVec.ofInt IntKind.i64.bits x &&& ~~~BitVec.ofInt IntKind.i64.bits y).toNat
def setB (a b c d x : Int) : Bool := inB x 0 15 && (andNot x (allI a b c d) == 0)
def isSetF : List Value → Option Value
  | [.agg ⟨[.int .i64 a, .int .i64 b, .int .i64 c, .int .i64 d]⟩, .int .i64 x] => some (.bool (setB a b c d x))
  | _ => none
theorem l2Set_sound : SoundQ Try.prog 130 (flatSem isSetF) := flat_sound (env_ok (N := Try.f130.ntmps) (l := [e_l1In, e_l2All]) (live := []) (ord := [])) Try.func130 (by
  intro args r h
  unfold isSetF at h
  split at h <;> cases h
  refine ⟨rfl, rfl, ?_⟩
  conv => whnf
  refine body_in (by kernel_rfl) (fun K' hK => ?_)
  repeat' (first | (with_reducible refine Step.mk ?_) | ((with_reducible refine a_cons ?_); conv => whnf) | (with_reducible refine k_reg ?_) | (with_reducible refine a_nil ?_) | (with_reducible refine k_seq ?_) | (with_reducible refine w_seq ?_) | (with_reducible refine w_reg ?_) | ((with_reducible refine c_cons ?_); conv => whnf) | (with_reducible refine c_nil ?_) | ((with_reducible refine w_cond ?_); conv => whnf) | (with_reducible refine w_block ?_) | (with_reducible refine k_blk ?_) | (with_reducible refine w_exit ?_) | (with_reducible refine w_ret ?_) | (with_reducible refine w_skip ?_) | (with_reducible refine k_seqe ?_) | (with_reducible refine k_seqr ?_) | (with_reducible refine k_blkr ?_) | (with_reducible refine k_rnde ?_) | (with_reducible refine k_rndr ?_) | (with_reducible refine k_ale ?_) | (with_reducible refine k_alr ?_) | ((with_reducible refine k_blke ?_); conv => whnf) | ((with_reducible refine k_rndn ?_); conv => whnf) | ((with_reducible refine k_aln ?_); conv => whnf) | ((with_reducible refine k_lam ?_); conv => whnf) | ((with_reducible refine w_loop ?_); conv => whnf) | (with_reducible refine w_aloop ?_) | ((with_reducible refine q_cons ?_); conv => whnf) | (with_reducible refine q_nil ?_) | ((with_reducible refine w_isd ?_); first | refine dg_drawn rfl ?_ | refine dg_quiet rfl ?_ | refine dg_tree rfl ?_) | (with_reducible refine t_leaf ?_) | (with_reducible refine t_two ?_ ?_) | (with_reducible refine body_in (by kernel_rfl) (fun K' hK => ?_)) | (with_reducible refine kout (by assumption) ?_) | (refine bsplit (fun h => ?_) (fun h => ?_) <;> conv => whnf) | (with_reducible refine Or.inl (Exists.intro 6 ?_)))
  all_goals (first | rfl | (simp only [Bool.not_eq_true', Bool.not_eq_false', Bool.not_true, Bool.not_false, Bool.and_false, Bool.false_and, Bool.and_true, Bool.true_and, Bool.or_false, Bool.false_or, Bool.or_true, Bool.true_or] at *; simp only [*, Bool.not_eq_true', Bool.not_eq_false', Bool.not_true, Bool.not_false, Bool.and_false, Bool.false_and, Bool.and_true, Bool.true_and, Bool.or_false, Bool.false_or, Bool.or_true, Bool.true_or, setB, andNot]; done) | (simp_all [setB, andNot]; done) | (simp_all [setB, andNot]; omega)))
def e_l2Set : Ent Try.prog := .flat 130 isSetF ⟨_, Try.func130, rfl, by kernel_rfl⟩ l2Set_sound

theorem isSet_sound : SoundQ Try.prog 197 (flatSem isSetF) := flat_sound (env_ok (N := Try.f197.ntmps) (l := [e_within, e_all]) (live := []) (ord := [])) Try.func197 (by
  intro args r h
  unfold isSetF at h
  split at h <;> cases h
  refine ⟨rfl, rfl, ?_⟩
  conv => whnf
  refine body_in (by kernel_rfl) (fun K' hK => ?_)
  repeat' (first | (with_reducible refine Step.mk ?_) | ((with_reducible refine a_cons ?_); conv => whnf) | (with_reducible refine k_reg ?_) | (with_reducible refine a_nil ?_) | (with_reducible refine k_seq ?_) | (with_reducible refine w_seq ?_) | (with_reducible refine w_reg ?_) | ((with_reducible refine c_cons ?_); conv => whnf) | (with_reducible refine c_nil ?_) | ((with_reducible refine w_cond ?_); conv => whnf) | (with_reducible refine w_block ?_) | (with_reducible refine k_blk ?_) | (with_reducible refine w_exit ?_) | (with_reducible refine w_ret ?_) | (with_reducible refine w_skip ?_) | (with_reducible refine k_seqe ?_) | (with_reducible refine k_seqr ?_) | (with_reducible refine k_blkr ?_) | (with_reducible refine k_rnde ?_) | (with_reducible refine k_rndr ?_) | (with_reducible refine k_ale ?_) | (with_reducible refine k_alr ?_) | ((with_reducible refine k_blke ?_); conv => whnf) | ((with_reducible refine k_rndn ?_); conv => whnf) | ((with_reducible refine k_aln ?_); conv => whnf) | ((with_reducible refine k_lam ?_); conv => whnf) | ((with_reducible refine w_loop ?_); conv => whnf) | (with_reducible refine w_aloop ?_) | ((with_reducible refine q_cons ?_); conv => whnf) | (with_reducible refine q_nil ?_) | ((with_reducible refine w_isd ?_); first | refine dg_drawn rfl ?_ | refine dg_quiet rfl ?_ | refine dg_tree rfl ?_) | (with_reducible refine t_leaf ?_) | (with_reducible refine t_two ?_ ?_) | (with_reducible refine body_in (by kernel_rfl) (fun K' hK => ?_)) | (with_reducible refine kout (by assumption) ?_) | (refine bsplit (fun h => ?_) (fun h => ?_) <;> conv => whnf) | (with_reducible refine Or.inl (Exists.intro 6 ?_)))
  all_goals (first | rfl | (simp only [Bool.not_eq_true', Bool.not_eq_false', Bool.not_true, Bool.not_false, Bool.and_false, Bool.false_and, Bool.and_true, Bool.true_and, Bool.or_false, Bool.false_or, Bool.or_true, Bool.true_or] at *; simp only [*, Bool.not_eq_true', Bool.not_eq_false', Bool.not_true, Bool.not_false, Bool.and_false, Bool.false_and, Bool.and_true, Bool.true_and, Bool.or_false, Bool.false_or, Bool.or_true, Bool.true_or, setB, andNot]; done) | (simp_all [setB, andNot]; done) | (simp_all [setB, andNot]; omega)))
def e_isSet : Ent Try.prog := .flat 197 isSetF ⟨_, Try.func197, rfl, by kernel_rfl⟩ isSet_sound


def bitB (x : Int) (i : Nat) : Bool := IntKind.i64.wrap (BitVec.ofInt IntKind.i64.bits (x.fdiv (2 ^ (min i IntKind.i64.bits))) &&& BitVec.ofInt IntKind.i64.bits 1).toNat == 1
def turnV (a p x : Int) (i : Nat) : Int := if bitB x i then IntKind.i64.wrap (a - p) else p
def turnF : List Value → Option Value
  | [.agg ⟨[.int .i64 a, .int .i64 b, .int .i64 c, .int .i64 d]⟩, .agg ⟨[.int .i64 p, .int .i64 q, .int .i64 r, .int .i64 s]⟩, .int .i64 x] =>
    some (.agg ⟨[.int .i64 (turnV a p x 0), .int .i64 (turnV b q x 1), .int .i64 (turnV c r x 2), .int .i64 (turnV d s x 3)]⟩)
  | _ => none
theorem l2Turn_sound : SoundQ Try.prog 207 (flatSem turnF) := by
  refine flat_sound (env_ok (N := Try.f207.ntmps) (l := []) (live := [(0, [2, 3, 4, 6, 7])]) (ord := [(5, .draw [(0, []), (1, []), (2, []), (3, []), (4, []), (5, []), (6, []), (7, []), (8, []), (9, []), (10, [])] [])])) Try.func207 ?_
  intro args r h
  unfold turnF at h
  split at h <;> cases h
  rename_i a b c d p q r s x
  refine ⟨rfl, rfl, ?_⟩
  cases e0 : bitB x 0 <;> cases e1 : bitB x 1 <;> cases e2 : bitB x 2 <;> cases e3 : bitB x 3
  all_goals
    simp only [turnV, e0, e1, e2, e3, if_true, if_false, Bool.false_eq_true]
    ((conv => whnf); refine body_in (by kernel_rfl) (fun K' hK => ?_))
    repeat' (first | (with_reducible refine Step.mk ?_) | ((with_reducible refine a_cons ?_); conv => whnf) | (with_reducible refine k_reg ?_) | (with_reducible refine a_nil ?_) | (with_reducible refine k_seq ?_) | (with_reducible refine w_seq ?_) | (with_reducible refine w_reg ?_) | ((with_reducible refine c_cons ?_); conv => whnf) | (with_reducible refine c_nil ?_) | ((with_reducible refine w_cond ?_); conv => whnf) | (with_reducible refine w_block ?_) | (with_reducible refine k_blk ?_) | (with_reducible refine w_exit ?_) | (with_reducible refine w_ret ?_) | (with_reducible refine w_skip ?_) | (with_reducible refine k_seqe ?_) | (with_reducible refine k_seqr ?_) | (with_reducible refine k_blkr ?_) | (with_reducible refine k_rnde ?_) | (with_reducible refine k_rndr ?_) | (with_reducible refine k_ale ?_) | (with_reducible refine k_alr ?_) | ((with_reducible refine k_blke ?_); conv => whnf) | ((with_reducible refine k_rndn ?_); conv => whnf) | ((with_reducible refine k_aln ?_); conv => whnf) | ((with_reducible refine k_lam ?_); conv => whnf) | ((with_reducible refine w_loop ?_); conv => whnf) | (with_reducible refine w_aloop ?_) | ((with_reducible refine q_cons ?_); conv => whnf) | (with_reducible refine q_nil ?_) | ((with_reducible refine w_isd ?_); first | refine dg_drawn rfl ?_ | refine dg_quiet rfl ?_ | refine dg_tree rfl ?_) | (with_reducible refine t_leaf ?_) | (with_reducible refine t_two ?_ ?_) | (with_reducible refine body_in (by kernel_rfl) (fun K' hK => ?_)) | (with_reducible refine kout (by assumption) ?_) | ((first | refine bcase_t (by with_reducible assumption) ?_ | refine bcase_f (by with_reducible assumption) ?_ | refine bcase_dt (by with_reducible assumption) ?_ | refine bcase_df (by with_reducible assumption) ?_ | refine bcase_t (by assumption) ?_ | refine bcase_f (by assumption) ?_ | refine bcase_dt (by assumption) ?_ | refine bcase_df (by assumption) ?_ | refine notsplit ?_ | refine dsplit (fun h => ?_) (fun h => ?_) | refine esplit (fun h => ?_) (fun h => ?_) | refine nsplit (fun h => ?_) (fun h => ?_) | refine bsplit (fun h => ?_) (fun h => ?_)) <;> conv => whnf) | (with_reducible refine Or.inl (Exists.intro 6 ?_)))
    all_goals rfl
def e_l2Turn : Ent Try.prog := .flat 207 turnF ⟨_, Try.func207, rfl, by kernel_rfl⟩ l2Turn_sound

theorem turn_sound : SoundQ Try.prog 198 (flatSem turnF) := by
  refine flat_sound (env_ok (N := Try.f198.ntmps) (l := []) (live := [(0, [2, 4, 6, 10, 11])]) (ord := [])) Try.func198 ?_
  intro args r h
  unfold turnF at h
  split at h <;> cases h
  rename_i a b c d p q r s x
  refine ⟨rfl, rfl, ?_⟩
  cases e0 : bitB x 0 <;> cases e1 : bitB x 1 <;> cases e2 : bitB x 2 <;> cases e3 : bitB x 3
  all_goals
    simp only [turnV, e0, e1, e2, e3, if_true, if_false, Bool.false_eq_true]
    ((conv => whnf); refine body_in (by kernel_rfl) (fun K' hK => ?_))
    repeat' (first | (with_reducible refine Step.mk ?_) | ((with_reducible refine a_cons ?_); conv => whnf) | (with_reducible refine k_reg ?_) | (with_reducible refine a_nil ?_) | (with_reducible refine k_seq ?_) | (with_reducible refine w_seq ?_) | (with_reducible refine w_reg ?_) | ((with_reducible refine c_cons ?_); conv => whnf) | (with_reducible refine c_nil ?_) | ((with_reducible refine w_cond ?_); conv => whnf) | (with_reducible refine w_block ?_) | (with_reducible refine k_blk ?_) | (with_reducible refine w_exit ?_) | (with_reducible refine w_ret ?_) | (with_reducible refine w_skip ?_) | (with_reducible refine k_seqe ?_) | (with_reducible refine k_seqr ?_) | (with_reducible refine k_blkr ?_) | (with_reducible refine k_rnde ?_) | (with_reducible refine k_rndr ?_) | (with_reducible refine k_ale ?_) | (with_reducible refine k_alr ?_) | ((with_reducible refine k_blke ?_); conv => whnf) | ((with_reducible refine k_rndn ?_); conv => whnf) | ((with_reducible refine k_aln ?_); conv => whnf) | ((with_reducible refine k_lam ?_); conv => whnf) | ((with_reducible refine w_loop ?_); conv => whnf) | (with_reducible refine w_aloop ?_) | ((with_reducible refine q_cons ?_); conv => whnf) | (with_reducible refine q_nil ?_) | ((with_reducible refine w_isd ?_); first | refine dg_drawn rfl ?_ | refine dg_quiet rfl ?_ | refine dg_tree rfl ?_) | (with_reducible refine t_leaf ?_) | (with_reducible refine t_two ?_ ?_) | (with_reducible refine body_in (by kernel_rfl) (fun K' hK => ?_)) | (with_reducible refine kout (by assumption) ?_) | ((first | refine bcase_t (by with_reducible assumption) ?_ | refine bcase_f (by with_reducible assumption) ?_ | refine bcase_dt (by with_reducible assumption) ?_ | refine bcase_df (by with_reducible assumption) ?_ | refine bcase_t (by assumption) ?_ | refine bcase_f (by assumption) ?_ | refine bcase_dt (by assumption) ?_ | refine bcase_df (by assumption) ?_ | refine notsplit ?_ | refine dsplit (fun h => ?_) (fun h => ?_) | refine esplit (fun h => ?_) (fun h => ?_) | refine nsplit (fun h => ?_) (fun h => ?_) | refine bsplit (fun h => ?_) (fun h => ?_)) <;> conv => whnf) | (with_reducible refine Or.inl (Exists.intro 6 ?_)))
    all_goals rfl
def e_turn : Ent Try.prog := .flat 198 turnF ⟨_, Try.func198, rfl, by kernel_rfl⟩ turn_sound

def mostV (a b : Int) : Int := if a > b then a else b
def most2F : List Value → Option Value
  | [.int .i64 a, .int .i64 b] => some (.int .i64 (mostV a b))
  | _ => none
theorem l1Most_sound : SoundQ Try.prog 163 (flatSem most2F) := flat_sound (env_ok (N := Try.f163.ntmps) (l := []) (live := []) (ord := [])) Try.func163 (by
  intro args r h
  unfold most2F at h
  split at h <;> cases h
  refine ⟨rfl, rfl, ?_⟩
  conv => whnf
  refine body_in (by kernel_rfl) (fun K' hK => ?_)
  repeat' (first | (with_reducible refine Step.mk ?_) | ((with_reducible refine a_cons ?_); conv => whnf) | (with_reducible refine k_reg ?_) | (with_reducible refine a_nil ?_) | (with_reducible refine k_seq ?_) | (with_reducible refine w_seq ?_) | (with_reducible refine w_reg ?_) | ((with_reducible refine c_cons ?_); conv => whnf) | (with_reducible refine c_nil ?_) | ((with_reducible refine w_cond ?_); conv => whnf) | (with_reducible refine w_block ?_) | (with_reducible refine k_blk ?_) | (with_reducible refine w_exit ?_) | (with_reducible refine w_ret ?_) | (with_reducible refine w_skip ?_) | (with_reducible refine k_seqe ?_) | (with_reducible refine k_seqr ?_) | (with_reducible refine k_blkr ?_) | (with_reducible refine k_rnde ?_) | (with_reducible refine k_rndr ?_) | (with_reducible refine k_ale ?_) | (with_reducible refine k_alr ?_) | ((with_reducible refine k_blke ?_); conv => whnf) | ((with_reducible refine k_rndn ?_); conv => whnf) | ((with_reducible refine k_aln ?_); conv => whnf) | ((with_reducible refine k_lam ?_); conv => whnf) | ((with_reducible refine w_loop ?_); conv => whnf) | (with_reducible refine w_aloop ?_) | ((with_reducible refine q_cons ?_); conv => whnf) | (with_reducible refine q_nil ?_) | ((with_reducible refine w_isd ?_); first | refine dg_drawn rfl ?_ | refine dg_quiet rfl ?_ | refine dg_tree rfl ?_) | (with_reducible refine t_leaf ?_) | (with_reducible refine t_two ?_ ?_) | (with_reducible refine body_in (by kernel_rfl) (fun K' hK => ?_)) | (with_reducible refine kout (by assumption) ?_) | (refine bsplit (fun h => ?_) (fun h => ?_) <;> conv => whnf) | (with_reducible refine Or.inl (Exists.intro 6 ?_)))
  all_goals (first | rfl | (simp only [Bool.not_eq_true', Bool.not_eq_false', Bool.not_true, Bool.not_false, Bool.and_false, Bool.false_and, Bool.and_true, Bool.true_and, Bool.or_false, Bool.false_or, Bool.or_true, Bool.true_or] at *; simp only [*, Bool.not_eq_true', Bool.not_eq_false', Bool.not_true, Bool.not_false, Bool.and_false, Bool.false_and, Bool.and_true, Bool.true_and, Bool.or_false, Bool.false_or, Bool.or_true, Bool.true_or, mostV]; done) | (simp_all [mostV]; done) | (simp_all [mostV]; omega)))
def e_l1Most : Ent Try.prog := .flat 163 most2F ⟨_, Try.func163, rfl, by kernel_rfl⟩ l1Most_sound

def leastV (a b : Int) : Int := if a < b then a else b
def least2F : List Value → Option Value
  | [.int .i64 a, .int .i64 b] => some (.int .i64 (leastV a b))
  | _ => none
theorem l1Least_sound : SoundQ Try.prog 218 (flatSem least2F) := flat_sound (env_ok (N := Try.f218.ntmps) (l := []) (live := []) (ord := [])) Try.func218 (by
  intro args r h
  unfold least2F at h
  split at h <;> cases h
  refine ⟨rfl, rfl, ?_⟩
  conv => whnf
  refine body_in (by kernel_rfl) (fun K' hK => ?_)
  repeat' (first | (with_reducible refine Step.mk ?_) | ((with_reducible refine a_cons ?_); conv => whnf) | (with_reducible refine k_reg ?_) | (with_reducible refine a_nil ?_) | (with_reducible refine k_seq ?_) | (with_reducible refine w_seq ?_) | (with_reducible refine w_reg ?_) | ((with_reducible refine c_cons ?_); conv => whnf) | (with_reducible refine c_nil ?_) | ((with_reducible refine w_cond ?_); conv => whnf) | (with_reducible refine w_block ?_) | (with_reducible refine k_blk ?_) | (with_reducible refine w_exit ?_) | (with_reducible refine w_ret ?_) | (with_reducible refine w_skip ?_) | (with_reducible refine k_seqe ?_) | (with_reducible refine k_seqr ?_) | (with_reducible refine k_blkr ?_) | (with_reducible refine k_rnde ?_) | (with_reducible refine k_rndr ?_) | (with_reducible refine k_ale ?_) | (with_reducible refine k_alr ?_) | ((with_reducible refine k_blke ?_); conv => whnf) | ((with_reducible refine k_rndn ?_); conv => whnf) | ((with_reducible refine k_aln ?_); conv => whnf) | ((with_reducible refine k_lam ?_); conv => whnf) | ((with_reducible refine w_loop ?_); conv => whnf) | (with_reducible refine w_aloop ?_) | ((with_reducible refine q_cons ?_); conv => whnf) | (with_reducible refine q_nil ?_) | ((with_reducible refine w_isd ?_); first | refine dg_drawn rfl ?_ | refine dg_quiet rfl ?_ | refine dg_tree rfl ?_) | (with_reducible refine t_leaf ?_) | (with_reducible refine t_two ?_ ?_) | (with_reducible refine body_in (by kernel_rfl) (fun K' hK => ?_)) | (with_reducible refine kout (by assumption) ?_) | (refine bsplit (fun h => ?_) (fun h => ?_) <;> conv => whnf) | (with_reducible refine Or.inl (Exists.intro 6 ?_)))
  all_goals (first | rfl | (simp only [Bool.not_eq_true', Bool.not_eq_false', Bool.not_true, Bool.not_false, Bool.and_false, Bool.false_and, Bool.and_true, Bool.true_and, Bool.or_false, Bool.false_or, Bool.or_true, Bool.true_or] at *; simp only [*, Bool.not_eq_true', Bool.not_eq_false', Bool.not_true, Bool.not_false, Bool.and_false, Bool.false_and, Bool.and_true, Bool.true_and, Bool.or_false, Bool.false_or, Bool.or_true, Bool.true_or, leastV]; done) | (simp_all [leastV]; done) | (simp_all [leastV]; omega)))
def e_l1Least : Ent Try.prog := .flat 218 least2F ⟨_, Try.func218, rfl, by kernel_rfl⟩ l1Least_sound


def passS (n d : Int) : Int := mostV (IntKind.i64.wrap (n - d)) 0
def passSF : List Value → Option Value
  | [.agg ⟨[.int .i64 p, .int .i64 q, .int .i64 r, .int .i64 s]⟩, .int .i64 d] => some (.agg ⟨[.int .i64 (passS p d), .int .i64 (passS q d), .int .i64 (passS r d), .int .i64 (passS s d)]⟩)
  | _ => none
def passI (n d : Int) : Int := if (0 : Int) > IntKind.i64.wrap (n - (if n < d then n else d)) then 0 else IntKind.i64.wrap (n - (if n < d then n else d))
def passIF : List Value → Option Value
  | [.agg ⟨[.int .i64 p, .int .i64 q, .int .i64 r, .int .i64 s]⟩, .int .i64 d] => some (.agg ⟨[.int .i64 (passI p d), .int .i64 (passI q d), .int .i64 (passI r d), .int .i64 (passI s d)]⟩)
  | _ => none
theorem l2Pass_sound : SoundQ Try.prog 209 (flatSem passSF) := flat_sound (env_ok (N := Try.f209.ntmps) (l := [e_l1Most]) (live := []) (ord := [])) Try.func209 (by
  intro args r h
  unfold passSF at h
  split at h <;> cases h
  refine ⟨rfl, rfl, ?_⟩
  conv => whnf
  refine body_in (by kernel_rfl) (fun K' hK => ?_)
  repeat' (first | (with_reducible refine Step.mk ?_) | ((with_reducible refine a_cons ?_); conv => whnf) | (with_reducible refine k_reg ?_) | (with_reducible refine a_nil ?_) | (with_reducible refine k_seq ?_) | (with_reducible refine w_seq ?_) | (with_reducible refine w_reg ?_) | ((with_reducible refine c_cons ?_); conv => whnf) | (with_reducible refine c_nil ?_) | ((with_reducible refine w_cond ?_); conv => whnf) | (with_reducible refine w_block ?_) | (with_reducible refine k_blk ?_) | (with_reducible refine w_exit ?_) | (with_reducible refine w_ret ?_) | (with_reducible refine w_skip ?_) | (with_reducible refine k_seqe ?_) | (with_reducible refine k_seqr ?_) | (with_reducible refine k_blkr ?_) | (with_reducible refine k_rnde ?_) | (with_reducible refine k_rndr ?_) | (with_reducible refine k_ale ?_) | (with_reducible refine k_alr ?_) | ((with_reducible refine k_blke ?_); conv => whnf) | ((with_reducible refine k_rndn ?_); conv => whnf) | ((with_reducible refine k_aln ?_); conv => whnf) | ((with_reducible refine k_lam ?_); conv => whnf) | ((with_reducible refine w_loop ?_); conv => whnf) | (with_reducible refine w_aloop ?_) | ((with_reducible refine q_cons ?_); conv => whnf) | (with_reducible refine q_nil ?_) | ((with_reducible refine w_isd ?_); first | refine dg_drawn rfl ?_ | refine dg_quiet rfl ?_ | refine dg_tree rfl ?_) | (with_reducible refine t_leaf ?_) | (with_reducible refine t_two ?_ ?_) | (with_reducible refine body_in (by kernel_rfl) (fun K' hK => ?_)) | (with_reducible refine kout (by assumption) ?_) | (refine bsplit (fun h => ?_) (fun h => ?_) <;> conv => whnf) | (with_reducible refine Or.inl (Exists.intro 6 ?_)))
  all_goals (first | rfl | (simp only [Bool.not_eq_true', Bool.not_eq_false', Bool.not_true, Bool.not_false, Bool.and_false, Bool.false_and, Bool.and_true, Bool.true_and, Bool.or_false, Bool.false_or, Bool.or_true, Bool.true_or] at *; simp only [*, Bool.not_eq_true', Bool.not_eq_false', Bool.not_true, Bool.not_false, Bool.and_false, Bool.false_and, Bool.and_true, Bool.true_and, Bool.or_false, Bool.false_or, Bool.or_true, Bool.true_or]; done) | (simp_all []; done) | (simp_all []; omega)))
def e_l2Pass : Ent Try.prog := .flat 209 passSF ⟨_, Try.func209, rfl, by kernel_rfl⟩ l2Pass_sound

theorem pass_sound : SoundQ Try.prog 140 (flatSem passIF) := flat_sound (env_ok (N := Try.f140.ntmps) (l := []) (live := []) (ord := [])) Try.func140 (by
  intro args r h
  unfold passIF at h
  split at h <;> cases h
  refine ⟨rfl, rfl, ?_⟩
  conv => whnf
  refine body_in (by kernel_rfl) (fun K' hK => ?_)
  repeat' (first | (with_reducible refine Step.mk ?_) | ((with_reducible refine a_cons ?_); conv => whnf) | (with_reducible refine k_reg ?_) | (with_reducible refine a_nil ?_) | (with_reducible refine k_seq ?_) | (with_reducible refine w_seq ?_) | (with_reducible refine w_reg ?_) | ((with_reducible refine c_cons ?_); conv => whnf) | (with_reducible refine c_nil ?_) | ((with_reducible refine w_cond ?_); conv => whnf) | (with_reducible refine w_block ?_) | (with_reducible refine k_blk ?_) | (with_reducible refine w_exit ?_) | (with_reducible refine w_ret ?_) | (with_reducible refine w_skip ?_) | (with_reducible refine k_seqe ?_) | (with_reducible refine k_seqr ?_) | (with_reducible refine k_blkr ?_) | (with_reducible refine k_rnde ?_) | (with_reducible refine k_rndr ?_) | (with_reducible refine k_ale ?_) | (with_reducible refine k_alr ?_) | ((with_reducible refine k_blke ?_); conv => whnf) | ((with_reducible refine k_rndn ?_); conv => whnf) | ((with_reducible refine k_aln ?_); conv => whnf) | ((with_reducible refine k_lam ?_); conv => whnf) | ((with_reducible refine w_loop ?_); conv => whnf) | (with_reducible refine w_aloop ?_) | ((with_reducible refine q_cons ?_); conv => whnf) | (with_reducible refine q_nil ?_) | ((with_reducible refine w_isd ?_); first | refine dg_drawn rfl ?_ | refine dg_quiet rfl ?_ | refine dg_tree rfl ?_) | (with_reducible refine t_leaf ?_) | (with_reducible refine t_two ?_ ?_) | (with_reducible refine body_in (by kernel_rfl) (fun K' hK => ?_)) | (with_reducible refine kout (by assumption) ?_) | (refine bsplit (fun h => ?_) (fun h => ?_) <;> conv => whnf) | (with_reducible refine Or.inl (Exists.intro 6 ?_)))
  all_goals (first | rfl | (simp only [Bool.not_eq_true', Bool.not_eq_false', Bool.not_true, Bool.not_false, Bool.and_false, Bool.false_and, Bool.and_true, Bool.true_and, Bool.or_false, Bool.false_or, Bool.or_true, Bool.true_or] at *; simp only [*, Bool.not_eq_true', Bool.not_eq_false', Bool.not_true, Bool.not_false, Bool.and_false, Bool.false_and, Bool.and_true, Bool.true_and, Bool.or_false, Bool.false_or, Bool.or_true, Bool.true_or]; done) | (simp_all []; done) | (simp_all []; omega)))
def e_pass : Ent Try.prog := .flat 140 passIF ⟨_, Try.func140, rfl, by kernel_rfl⟩ pass_sound


def nx (l n : Int) : Int := if n > 0 then (if l = 0 then n else if n < l then n else l) else l
def nextV (p q r s : Int) : Int := nx (nx (nx (nx 0 p) q) r) s
def nextF : List Value → Option Value
  | [.agg ⟨[.int .i64 p, .int .i64 q, .int .i64 r, .int .i64 s]⟩] => some (.int .i64 (nextV p q r s))
  | _ => none
theorem l2Next_sound : SoundQ Try.prog 208 (flatSem nextF) := by
  refine flat_sound (env_ok (N := Try.f208.ntmps) (l := []) (live := [(0, [1, 3, 4])]) (ord := [])) Try.func208 ?_
  intro args r h
  unfold nextF at h
  split at h <;> cases h
  refine ⟨rfl, rfl, ?_⟩
  ((conv => whnf); refine body_in (by kernel_rfl) (fun K' hK => ?_))
  repeat' (first | (with_reducible refine Step.mk ?_) | ((with_reducible refine a_cons ?_); conv => whnf) | (with_reducible refine k_reg ?_) | (with_reducible refine a_nil ?_) | (with_reducible refine k_seq ?_) | (with_reducible refine w_seq ?_) | (with_reducible refine w_reg ?_) | ((with_reducible refine c_cons ?_); conv => whnf) | (with_reducible refine c_nil ?_) | ((with_reducible refine w_cond ?_); conv => whnf) | (with_reducible refine w_block ?_) | (with_reducible refine k_blk ?_) | (with_reducible refine w_exit ?_) | (with_reducible refine w_ret ?_) | (with_reducible refine w_skip ?_) | (with_reducible refine k_seqe ?_) | (with_reducible refine k_seqr ?_) | (with_reducible refine k_blkr ?_) | (with_reducible refine k_rnde ?_) | (with_reducible refine k_rndr ?_) | (with_reducible refine k_ale ?_) | (with_reducible refine k_alr ?_) | ((with_reducible refine k_blke ?_); conv => whnf) | ((with_reducible refine k_rndn ?_); conv => whnf) | ((with_reducible refine k_aln ?_); conv => whnf) | ((with_reducible refine k_lam ?_); conv => whnf) | ((with_reducible refine w_loop ?_); conv => whnf) | (with_reducible refine w_aloop ?_) | ((with_reducible refine q_cons ?_); conv => whnf) | (with_reducible refine q_nil ?_) | ((with_reducible refine w_isd ?_); first | refine dg_drawn rfl ?_ | refine dg_quiet rfl ?_ | refine dg_tree rfl ?_) | (with_reducible refine t_leaf ?_) | (with_reducible refine t_two ?_ ?_) | (with_reducible refine body_in (by kernel_rfl) (fun K' hK => ?_)) | (with_reducible refine kout (by assumption) ?_) | ((first | refine bcase_t (by with_reducible assumption) ?_ | refine bcase_f (by with_reducible assumption) ?_ | refine bcase_dt (by with_reducible assumption) ?_ | refine bcase_df (by with_reducible assumption) ?_ | refine bcase_t (by assumption) ?_ | refine bcase_f (by assumption) ?_ | refine bcase_dt (by assumption) ?_ | refine bcase_df (by assumption) ?_ | refine notsplit ?_ | refine dsplit (fun h => ?_) (fun h => ?_) | refine esplit (fun h => ?_) (fun h => ?_) | refine nsplit (fun h => ?_) (fun h => ?_) | refine bsplit (fun h => ?_) (fun h => ?_)) <;> conv => whnf) | (with_reducible refine Or.inl (Exists.intro 6 ?_)))
  all_goals first | (exfalso; omega) | rfl | (simp only [nextV, nx, *, if_true, if_false]; done) | (refine congrArg (Value.int .i64) ?_; simp only [nextV, nx, *, if_true, if_false, gt_iff_lt, Int.lt_irrefl]; done)
def e_l2Next : Ent Try.prog := .flat 208 nextF ⟨_, Try.func208, rfl, by kernel_rfl⟩ l2Next_sound

theorem next_sound : SoundQ Try.prog 146 (flatSem nextF) := by
  refine flat_sound (env_ok (N := Try.f146.ntmps) (l := []) (live := [(0, [3, 6, 7])]) (ord := [])) Try.func146 ?_
  intro args r h
  unfold nextF at h
  split at h <;> cases h
  refine ⟨rfl, rfl, ?_⟩
  ((conv => whnf); refine body_in (by kernel_rfl) (fun K' hK => ?_))
  repeat' (first | (with_reducible refine Step.mk ?_) | ((with_reducible refine a_cons ?_); conv => whnf) | (with_reducible refine k_reg ?_) | (with_reducible refine a_nil ?_) | (with_reducible refine k_seq ?_) | (with_reducible refine w_seq ?_) | (with_reducible refine w_reg ?_) | ((with_reducible refine c_cons ?_); conv => whnf) | (with_reducible refine c_nil ?_) | ((with_reducible refine w_cond ?_); conv => whnf) | (with_reducible refine w_block ?_) | (with_reducible refine k_blk ?_) | (with_reducible refine w_exit ?_) | (with_reducible refine w_ret ?_) | (with_reducible refine w_skip ?_) | (with_reducible refine k_seqe ?_) | (with_reducible refine k_seqr ?_) | (with_reducible refine k_blkr ?_) | (with_reducible refine k_rnde ?_) | (with_reducible refine k_rndr ?_) | (with_reducible refine k_ale ?_) | (with_reducible refine k_alr ?_) | ((with_reducible refine k_blke ?_); conv => whnf) | ((with_reducible refine k_rndn ?_); conv => whnf) | ((with_reducible refine k_aln ?_); conv => whnf) | ((with_reducible refine k_lam ?_); conv => whnf) | ((with_reducible refine w_loop ?_); conv => whnf) | (with_reducible refine w_aloop ?_) | ((with_reducible refine q_cons ?_); conv => whnf) | (with_reducible refine q_nil ?_) | ((with_reducible refine w_isd ?_); first | refine dg_drawn rfl ?_ | refine dg_quiet rfl ?_ | refine dg_tree rfl ?_) | (with_reducible refine t_leaf ?_) | (with_reducible refine t_two ?_ ?_) | (with_reducible refine body_in (by kernel_rfl) (fun K' hK => ?_)) | (with_reducible refine kout (by assumption) ?_) | ((first | refine bcase_t (by with_reducible assumption) ?_ | refine bcase_f (by with_reducible assumption) ?_ | refine bcase_dt (by with_reducible assumption) ?_ | refine bcase_df (by with_reducible assumption) ?_ | refine bcase_t (by assumption) ?_ | refine bcase_f (by assumption) ?_ | refine bcase_dt (by assumption) ?_ | refine bcase_df (by assumption) ?_ | refine notsplit ?_ | refine dsplit (fun h => ?_) (fun h => ?_) | refine esplit (fun h => ?_) (fun h => ?_) | refine nsplit (fun h => ?_) (fun h => ?_) | refine bsplit (fun h => ?_) (fun h => ?_)) <;> conv => whnf) | (with_reducible refine Or.inl (Exists.intro 6 ?_)))
  all_goals first | (exfalso; omega) | rfl | (simp only [nextV, nx, *, if_true, if_false]; done) | (refine congrArg (Value.int .i64) ?_; simp only [nextV, nx, *, if_true, if_false, gt_iff_lt, Int.lt_irrefl]; done)
def e_next : Ent Try.prog := .flat 146 nextF ⟨_, Try.func146, rfl, by kernel_rfl⟩ next_sound

end Go.Proofs.Ytnnfbgonjonflaa
