/- Sets of glasses: what the small functions on them compute. -/
import Derived.Test.YtbhlncohfpempaaDoorKitch
set_option linter.unusedSimpArgs false
set_option linter.unusedVariables false
set_option maxRecDepth 100000
set_option maxHeartbeats 4000000
namespace Go.Proofs.YtbhlncohfpempaaDoor
open Go Go.Eng
def allI (a b c d : Int) : Int := (if a > 0 then 1 else 0) + (if b > 0 then 2 else 0) + (if c > 0 then 4 else 0) + (if d > 0 then 8 else 0)
def allF : List Value → Option Value
  | [.agg ⟨[.int .i64 a, .int .i64 b, .int .i64 c, .int .i64 d]⟩] => some (.int .i64 (allI a b c d))
  | _ => none
theorem l2All_sound : SoundQ Tryd.prog 95 (flatSem allF) := flat_sound (env_ok (N := Tryd.f95.ntmps) (l := []) (live := []) (ord := [])) Tryd.func95 (by
  intro args r h
  unfold allF at h
  split at h <;> cases h
  refine ⟨rfl, rfl, ?_⟩
  conv => whnf
  refine body_in (by kernel_rfl) (fun K' hK => ?_)
  repeat' (first | (with_reducible refine Step.mk ?_) | ((with_reducible refine a_cons ?_); conv => whnf) | (with_reducible refine k_reg ?_) | (with_reducible refine a_nil ?_) | (with_reducible refine k_seq ?_) | (with_reducible refine w_seq ?_) | (with_reducible refine w_reg ?_) | ((with_reducible refine c_cons ?_); conv => whnf) | (with_reducible refine c_nil ?_) | ((with_reducible refine w_cond ?_); conv => whnf) | (with_reducible refine w_block ?_) | (with_reducible refine k_blk ?_) | (with_reducible refine w_exit ?_) | (with_reducible refine w_ret ?_) | (with_reducible refine w_skip ?_) | (with_reducible refine k_seqe ?_) | (with_reducible refine k_seqr ?_) | (with_reducible refine k_blkr ?_) | (with_reducible refine k_rnde ?_) | (with_reducible refine k_rndr ?_) | (with_reducible refine k_ale ?_) | (with_reducible refine k_alr ?_) | ((with_reducible refine k_blke ?_); conv => whnf) | ((with_reducible refine k_rndn ?_); conv => whnf) | ((with_reducible refine k_aln ?_); conv => whnf) | ((with_reducible refine k_lam ?_); conv => whnf) | ((with_reducible refine w_loop ?_); conv => whnf) | (with_reducible refine w_aloop ?_) | ((with_reducible refine q_cons ?_); conv => whnf) | (with_reducible refine q_nil ?_) | ((with_reducible refine w_isd ?_); first | refine dg_drawn rfl ?_ | refine dg_quiet rfl ?_) | (with_reducible refine body_in (by kernel_rfl) (fun K' hK => ?_)) | (with_reducible refine kout (by assumption) ?_) | (refine bsplit (fun h => ?_) (fun h => ?_) <;> conv => whnf) | (with_reducible refine Or.inl (Exists.intro 6 ?_)))
  all_goals (simp only [allI, *]; first | rfl | (simp_all; done) | (split <;> split <;> split <;> split <;> first | rfl | (simp_all; done) | omega)))
def e_l2All : Ent Tryd.prog := .flat 95 allF ⟨_, Tryd.func95, rfl, by kernel_rfl⟩ l2All_sound

theorem all_sound : SoundQ Tryd.prog 97 (flatSem allF) := flat_sound (env_ok (N := Tryd.f97.ntmps) (l := []) (live := []) (ord := [])) Tryd.func97 (by
  intro args r h
  unfold allF at h
  split at h <;> cases h
  refine ⟨rfl, rfl, ?_⟩
  conv => whnf
  refine body_in (by kernel_rfl) (fun K' hK => ?_)
  repeat' (first | (with_reducible refine Step.mk ?_) | ((with_reducible refine a_cons ?_); conv => whnf) | (with_reducible refine k_reg ?_) | (with_reducible refine a_nil ?_) | (with_reducible refine k_seq ?_) | (with_reducible refine w_seq ?_) | (with_reducible refine w_reg ?_) | ((with_reducible refine c_cons ?_); conv => whnf) | (with_reducible refine c_nil ?_) | ((with_reducible refine w_cond ?_); conv => whnf) | (with_reducible refine w_block ?_) | (with_reducible refine k_blk ?_) | (with_reducible refine w_exit ?_) | (with_reducible refine w_ret ?_) | (with_reducible refine w_skip ?_) | (with_reducible refine k_seqe ?_) | (with_reducible refine k_seqr ?_) | (with_reducible refine k_blkr ?_) | (with_reducible refine k_rnde ?_) | (with_reducible refine k_rndr ?_) | (with_reducible refine k_ale ?_) | (with_reducible refine k_alr ?_) | ((with_reducible refine k_blke ?_); conv => whnf) | ((with_reducible refine k_rndn ?_); conv => whnf) | ((with_reducible refine k_aln ?_); conv => whnf) | ((with_reducible refine k_lam ?_); conv => whnf) | ((with_reducible refine w_loop ?_); conv => whnf) | (with_reducible refine w_aloop ?_) | ((with_reducible refine q_cons ?_); conv => whnf) | (with_reducible refine q_nil ?_) | ((with_reducible refine w_isd ?_); first | refine dg_drawn rfl ?_ | refine dg_quiet rfl ?_) | (with_reducible refine body_in (by kernel_rfl) (fun K' hK => ?_)) | (with_reducible refine kout (by assumption) ?_) | (refine bsplit (fun h => ?_) (fun h => ?_) <;> conv => whnf) | (with_reducible refine Or.inl (Exists.intro 6 ?_)))
  all_goals (simp only [allI, *]; first | rfl | (simp_all; done) | (split <;> split <;> split <;> split <;> first | rfl | (simp_all; done) | omega)))
def e_all : Ent Tryd.prog := .flat 97 allF ⟨_, Tryd.func97, rfl, by kernel_rfl⟩ all_sound


def andNot (x y : Int) : Int := IntKind.i64.wrap (BitVec.ofInt IntKind.i64.bits x &&& ~~~BitVec.ofInt IntKind.i64.bits y).toNat
def setB (a b c d x : Int) : Bool := inB x 0 15 && (andNot x (allI a b c d) == 0)
def isSetF : List Value → Option Value
  | [.agg ⟨[.int .i64 a, .int .i64 b, .int .i64 c, .int .i64 d]⟩, .int .i64 x] => some (.bool (setB a b c d x))
  | _ => none
theorem l2Set_sound : SoundQ Tryd.prog 81 (flatSem isSetF) := flat_sound (env_ok (N := Tryd.f81.ntmps) (l := [e_l1In, e_l2All]) (live := []) (ord := [])) Tryd.func81 (by
  intro args r h
  unfold isSetF at h
  split at h <;> cases h
  refine ⟨rfl, rfl, ?_⟩
  conv => whnf
  refine body_in (by kernel_rfl) (fun K' hK => ?_)
  repeat' (first | (with_reducible refine Step.mk ?_) | ((with_reducible refine a_cons ?_); conv => whnf) | (with_reducible refine k_reg ?_) | (with_reducible refine a_nil ?_) | (with_reducible refine k_seq ?_) | (with_reducible refine w_seq ?_) | (with_reducible refine w_reg ?_) | ((with_reducible refine c_cons ?_); conv => whnf) | (with_reducible refine c_nil ?_) | ((with_reducible refine w_cond ?_); conv => whnf) | (with_reducible refine w_block ?_) | (with_reducible refine k_blk ?_) | (with_reducible refine w_exit ?_) | (with_reducible refine w_ret ?_) | (with_reducible refine w_skip ?_) | (with_reducible refine k_seqe ?_) | (with_reducible refine k_seqr ?_) | (with_reducible refine k_blkr ?_) | (with_reducible refine k_rnde ?_) | (with_reducible refine k_rndr ?_) | (with_reducible refine k_ale ?_) | (with_reducible refine k_alr ?_) | ((with_reducible refine k_blke ?_); conv => whnf) | ((with_reducible refine k_rndn ?_); conv => whnf) | ((with_reducible refine k_aln ?_); conv => whnf) | ((with_reducible refine k_lam ?_); conv => whnf) | ((with_reducible refine w_loop ?_); conv => whnf) | (with_reducible refine w_aloop ?_) | ((with_reducible refine q_cons ?_); conv => whnf) | (with_reducible refine q_nil ?_) | ((with_reducible refine w_isd ?_); first | refine dg_drawn rfl ?_ | refine dg_quiet rfl ?_) | (with_reducible refine body_in (by kernel_rfl) (fun K' hK => ?_)) | (with_reducible refine kout (by assumption) ?_) | (refine bsplit (fun h => ?_) (fun h => ?_) <;> conv => whnf) | (with_reducible refine Or.inl (Exists.intro 6 ?_)))
  all_goals (first | rfl | (simp only [Bool.not_eq_true', Bool.not_eq_false', Bool.not_true, Bool.not_false, Bool.and_false, Bool.false_and, Bool.and_true, Bool.true_and, Bool.or_false, Bool.false_or, Bool.or_true, Bool.true_or] at *; simp only [*, Bool.not_eq_true', Bool.not_eq_false', Bool.not_true, Bool.not_false, Bool.and_false, Bool.false_and, Bool.and_true, Bool.true_and, Bool.or_false, Bool.false_or, Bool.or_true, Bool.true_or, setB, andNot]; done) | (simp_all [setB, andNot]; done) | (simp_all [setB, andNot]; omega)))
def e_l2Set : Ent Tryd.prog := .flat 81 isSetF ⟨_, Tryd.func81, rfl, by kernel_rfl⟩ l2Set_sound

theorem isSet_sound : SoundQ Tryd.prog 84 (flatSem isSetF) := flat_sound (env_ok (N := Tryd.f84.ntmps) (l := [e_within, e_all]) (live := []) (ord := [])) Tryd.func84 (by
  intro args r h
  unfold isSetF at h
  split at h <;> cases h
  refine ⟨rfl, rfl, ?_⟩
  conv => whnf
  refine body_in (by kernel_rfl) (fun K' hK => ?_)
  repeat' (first | (with_reducible refine Step.mk ?_) | ((with_reducible refine a_cons ?_); conv => whnf) | (with_reducible refine k_reg ?_) | (with_reducible refine a_nil ?_) | (with_reducible refine k_seq ?_) | (with_reducible refine w_seq ?_) | (with_reducible refine w_reg ?_) | ((with_reducible refine c_cons ?_); conv => whnf) | (with_reducible refine c_nil ?_) | ((with_reducible refine w_cond ?_); conv => whnf) | (with_reducible refine w_block ?_) | (with_reducible refine k_blk ?_) | (with_reducible refine w_exit ?_) | (with_reducible refine w_ret ?_) | (with_reducible refine w_skip ?_) | (with_reducible refine k_seqe ?_) | (with_reducible refine k_seqr ?_) | (with_reducible refine k_blkr ?_) | (with_reducible refine k_rnde ?_) | (with_reducible refine k_rndr ?_) | (with_reducible refine k_ale ?_) | (with_reducible refine k_alr ?_) | ((with_reducible refine k_blke ?_); conv => whnf) | ((with_reducible refine k_rndn ?_); conv => whnf) | ((with_reducible refine k_aln ?_); conv => whnf) | ((with_reducible refine k_lam ?_); conv => whnf) | ((with_reducible refine w_loop ?_); conv => whnf) | (with_reducible refine w_aloop ?_) | ((with_reducible refine q_cons ?_); conv => whnf) | (with_reducible refine q_nil ?_) | ((with_reducible refine w_isd ?_); first | refine dg_drawn rfl ?_ | refine dg_quiet rfl ?_) | (with_reducible refine body_in (by kernel_rfl) (fun K' hK => ?_)) | (with_reducible refine kout (by assumption) ?_) | (refine bsplit (fun h => ?_) (fun h => ?_) <;> conv => whnf) | (with_reducible refine Or.inl (Exists.intro 6 ?_)))
  all_goals (first | rfl | (simp only [Bool.not_eq_true', Bool.not_eq_false', Bool.not_true, Bool.not_false, Bool.and_false, Bool.false_and, Bool.and_true, Bool.true_and, Bool.or_false, Bool.false_or, Bool.or_true, Bool.true_or] at *; simp only [*, Bool.not_eq_true', Bool.not_eq_false', Bool.not_true, Bool.not_false, Bool.and_false, Bool.false_and, Bool.and_true, Bool.true_and, Bool.or_false, Bool.false_or, Bool.or_true, Bool.true_or, setB, andNot]; done) | (simp_all [setB, andNot]; done) | (simp_all [setB, andNot]; omega)))
def e_isSet : Ent Tryd.prog := .flat 84 isSetF ⟨_, Tryd.func84, rfl, by kernel_rfl⟩ isSet_sound


def bitB (x : Int) (i : Nat) : Bool := IntKind.i64.wrap (BitVec.ofInt IntKind.i64.bits (x.fdiv (2 ^ (min i IntKind.i64.bits))) &&& BitVec.ofInt IntKind.i64.bits 1).toNat == 1
/-- Four numbers: a kit's glasses, or its sand. -/
structure Q4 where
  a : Int
  b : Int
  c : Int
  d : Int
deriving DecidableEq

def kitQ (k : Q4) : Bool := kitB k.a k.b k.c k.d
def setQ (k : Q4) (x : Int) : Bool := setB k.a k.b k.c k.d x
end Go.Proofs.YtbhlncohfpempaaDoor
