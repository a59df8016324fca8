/- A step of a kit: what it computes. -/
import Derived.Test.YtnnfbgonjonflaaKit
set_option linter.unusedSimpArgs false
set_option linter.unusedVariables false
set_option maxRecDepth 100000
set_option maxHeartbeats 4000000
namespace Go.Proofs.Ytnnfbgonjonflaa
open Go Go.Eng

/-- Four numbers: a kit's glasses, or its sand. -/
structure Q4 where
  a : Int
  b : Int
  c : Int
  d : Int
deriving DecidableEq

def kitQ (k : Q4) : Bool := kitB k.a k.b k.c k.d
def sandQ (k s : Q4) : Bool := sandB k.a k.b k.c k.d s.a s.b s.c s.d
def setQ (k : Q4) (x : Int) : Bool := setB k.a k.b k.c k.d x
def turnQ (k s : Q4) (x : Int) : Q4 := ⟨turnV k.a s.a x 0, turnV k.b s.b x 1, turnV k.c s.c x 2, turnV k.d s.d x 3⟩
def nextQ (s : Q4) : Int := nextV s.a s.b s.c s.d
def passQ (s : Q4) (d : Int) : Q4 := ⟨passS s.a d, passS s.b d, passS s.c d, passS s.d d⟩
def stepD (k s : Q4) (x : Int) : Int := nextQ (turnQ k s x)
def stepQ (k s : Q4) (x : Int) : Q4 := passQ (turnQ k s x) (stepD k s x)

theorem inB_iff {x a b : Int} : inB x a b = true ↔ a ≤ x ∧ x ≤ b := by simp [inB]
theorem turn_range {a p x : Int} {i : Nat} (ha : 0 ≤ a ∧ a ≤ 30) (hp : 0 ≤ p ∧ p ≤ a) : 0 ≤ turnV a p x i ∧ turnV a p x i ≤ a := by
  unfold turnV
  split
  · rw [Go.Eng.wrap_small (by omega)]; omega
  · omega
theorem nx_range {l n : Int} (hl : 0 ≤ l ∧ l ≤ 30) (hn : 0 ≤ n ∧ n ≤ 30) : 0 ≤ nx l n ∧ nx l n ≤ 30 := by
  unfold nx
  repeat' split
  all_goals omega
theorem next_range {p q r s : Int} (h1 : 0 ≤ p ∧ p ≤ 30) (h2 : 0 ≤ q ∧ q ≤ 30) (h3 : 0 ≤ r ∧ r ≤ 30) (h4 : 0 ≤ s ∧ s ≤ 30) : 0 ≤ nextV p q r s ∧ nextV p q r s ≤ 30 :=
  nx_range (nx_range (nx_range (nx_range (by omega) h1) h2) h3) h4
theorem passI_eq {n d : Int} (hn : 0 ≤ n ∧ n ≤ 30) (hd : 0 ≤ d ∧ d ≤ 30) : passI n d = passS n d := by
  unfold passI passS mostV
  rw [Go.Eng.wrap_small (x := n - d) (by omega)]
  by_cases h : n < d
  · simp only [h, if_true]
    rw [Go.Eng.wrap_small (by omega)]
    rw [if_neg (by omega), if_neg (by omega)]; omega
  · simp only [h, if_false]
    rw [Go.Eng.wrap_small (by omega)]
    rw [if_neg (by omega)]
    split <;> omega
theorem pass_range {n d : Int} (hn : 0 ≤ n ∧ n ≤ 30) (hd : 0 ≤ d ∧ d ≤ 30) : 0 ≤ passS n d ∧ passS n d ≤ n := by
  unfold passS mostV
  rw [Go.Eng.wrap_small (by omega)]
  split <;> omega

theorem kit_ranges {k : Q4} (h : kitQ k = true) : (0 ≤ k.a ∧ k.a ≤ 30) ∧ (0 ≤ k.b ∧ k.b ≤ 30) ∧ (0 ≤ k.c ∧ k.c ≤ 30) ∧ (0 ≤ k.d ∧ k.d ≤ 30) := by
  simp only [kitQ, kitB, Bool.and_eq_true, inB_iff] at h
  obtain ⟨⟨⟨⟨h1, h2⟩, h3⟩, h4⟩, _⟩ := h
  exact ⟨h1, h2, h3, h4⟩
theorem sandQ_iff {k s : Q4} : sandQ k s = true ↔ kitQ k = true ∧ (0 ≤ s.a ∧ s.a ≤ k.a) ∧ (0 ≤ s.b ∧ s.b ≤ k.b) ∧ (0 ≤ s.c ∧ s.c ≤ k.c) ∧ (0 ≤ s.d ∧ s.d ≤ k.d) := by
  simp only [sandQ, kitQ, sandB, sandIn, Bool.and_eq_true, inB_iff, and_assoc]
theorem turn_sand {k s : Q4} (x : Int) (h : sandQ k s = true) : sandQ k (turnQ k s x) = true := by
  rw [sandQ_iff] at h ⊢
  obtain ⟨h0, h1, h2, h3, h4⟩ := h
  obtain ⟨k1, k2, k3, k4⟩ := kit_ranges h0
  exact ⟨h0, turn_range k1 h1, turn_range k2 h2, turn_range k3 h3, turn_range k4 h4⟩
theorem next_sand {k s : Q4} (h : sandQ k s = true) : 0 ≤ nextQ s ∧ nextQ s ≤ 30 := by
  rw [sandQ_iff] at h
  obtain ⟨h0, h1, h2, h3, h4⟩ := h
  obtain ⟨k1, k2, k3, k4⟩ := kit_ranges h0
  exact next_range (by omega) (by omega) (by omega) (by omega)
theorem pass_sand {k s : Q4} {d : Int} (h : sandQ k s = true) (hd : 0 ≤ d ∧ d ≤ 30) : sandQ k (passQ s d) = true := by
  rw [sandQ_iff] at h ⊢
  obtain ⟨h0, h1, h2, h3, h4⟩ := h
  obtain ⟨k1, k2, k3, k4⟩ := kit_ranges h0
  have p1 := pass_range (n := s.a) (d := d) (by omega) hd
  have p2 := pass_range (n := s.b) (d := d) (by omega) hd
  have p3 := pass_range (n := s.c) (d := d) (by omega) hd
  have p4 := pass_range (n := s.d) (d := d) (by omega) hd
  refine ⟨h0, ?_, ?_, ?_, ?_⟩ <;> simp only [passQ] <;> omega
theorem stepD_range {k s : Q4} (x : Int) (h : sandQ k s = true) : 0 ≤ stepD k s x ∧ stepD k s x ≤ 30 := next_sand (turn_sand x h)
theorem stepQ_sand {k s : Q4} (x : Int) (h : sandQ k s = true) : sandQ k (stepQ k s x) = true := pass_sand (turn_sand x h) (stepD_range x h)
theorem passI_ok {k s : Q4} (h : sandQ k s = true) {d : Int} (hd : 0 ≤ d ∧ d ≤ 30) : passI s.a d = passS s.a d ∧ passI s.b d = passS s.b d ∧ passI s.c d = passS s.c d ∧ passI s.d d = passS s.d d := by
  rw [sandQ_iff] at h
  obtain ⟨h0, h1, h2, h3, h4⟩ := h
  obtain ⟨k1, k2, k3, k4⟩ := kit_ranges h0
  exact ⟨passI_eq (by omega) hd, passI_eq (by omega) hd, passI_eq (by omega) hd, passI_eq (by omega) hd⟩

def stepF : List Value → Option Value
  | [.agg ⟨[.int .i64 a, .int .i64 b, .int .i64 c, .int .i64 d]⟩, .agg ⟨[.int .i64 p, .int .i64 q, .int .i64 r, .int .i64 s]⟩, .int .i64 x] => some (.tuple ⟨[.agg ⟨[.int .i64 (stepQ ⟨a, b, c, d⟩ ⟨p, q, r, s⟩ x).a, .int .i64 (stepQ ⟨a, b, c, d⟩ ⟨p, q, r, s⟩ x).b, .int .i64 (stepQ ⟨a, b, c, d⟩ ⟨p, q, r, s⟩ x).c, .int .i64 (stepQ ⟨a, b, c, d⟩ ⟨p, q, r, s⟩ x).d]⟩, .int .i64 (stepD ⟨a, b, c, d⟩ ⟨p, q, r, s⟩ x)]⟩)
  | _ => none
theorem l2Step_sound : SoundQ Try.prog 131 (flatSem stepF) := flat_sound (env_ok (N := Try.f131.ntmps) (l := [e_l2Turn, e_l2Next, e_l2Pass]) (live := []) (ord := [])) Try.func131 (by
  intro args r h
  unfold stepF at h
  split at h <;> cases h
  refine ⟨rfl, rfl, ?_⟩
  conv => whnf
  refine body_in (by kernel_rfl) (fun K' hK => ?_)
  repeat' (first | (with_reducible refine Step.mk ?_) | ((with_reducible refine a_cons ?_); conv => whnf) | (with_reducible refine k_reg ?_) | (with_reducible refine a_nil ?_) | (with_reducible refine k_seq ?_) | (with_reducible refine w_seq ?_) | (with_reducible refine w_reg ?_) | ((with_reducible refine c_cons ?_); conv => whnf) | (with_reducible refine c_nil ?_) | ((with_reducible refine w_cond ?_); conv => whnf) | (with_reducible refine w_block ?_) | (with_reducible refine k_blk ?_) | (with_reducible refine w_exit ?_) | (with_reducible refine w_ret ?_) | (with_reducible refine w_skip ?_) | (with_reducible refine k_seqe ?_) | (with_reducible refine k_seqr ?_) | (with_reducible refine k_blkr ?_) | (with_reducible refine k_rnde ?_) | (with_reducible refine k_rndr ?_) | (with_reducible refine k_ale ?_) | (with_reducible refine k_alr ?_) | ((with_reducible refine k_blke ?_); conv => whnf) | ((with_reducible refine k_rndn ?_); conv => whnf) | ((with_reducible refine k_aln ?_); conv => whnf) | ((with_reducible refine k_lam ?_); conv => whnf) | ((with_reducible refine w_loop ?_); conv => whnf) | (with_reducible refine w_aloop ?_) | ((with_reducible refine q_cons ?_); conv => whnf) | (with_reducible refine q_nil ?_) | ((with_reducible refine w_isd ?_); first | refine dg_drawn rfl ?_ | refine dg_quiet rfl ?_ | refine dg_tree rfl ?_) | (with_reducible refine t_leaf ?_) | (with_reducible refine t_two ?_ ?_) | (with_reducible refine body_in (by kernel_rfl) (fun K' hK => ?_)) | (with_reducible refine kout (by assumption) ?_) | (refine bsplit (fun h => ?_) (fun h => ?_) <;> conv => whnf) | (with_reducible refine Or.inl (Exists.intro 6 ?_)))
  all_goals (exact rfl))
def e_l2Step : Ent Try.prog := .flat 131 stepF ⟨_, Try.func131, rfl, by kernel_rfl⟩ l2Step_sound

def stepIF : List Value → Option Value
  | [.agg ⟨[.int .i64 a, .int .i64 b, .int .i64 c, .int .i64 d]⟩, .agg ⟨[.int .i64 p, .int .i64 q, .int .i64 r, .int .i64 s]⟩, .int .i64 x] => if sandQ ⟨a, b, c, d⟩ ⟨p, q, r, s⟩ = true then some (.tuple ⟨[.agg ⟨[.int .i64 (stepQ ⟨a, b, c, d⟩ ⟨p, q, r, s⟩ x).a, .int .i64 (stepQ ⟨a, b, c, d⟩ ⟨p, q, r, s⟩ x).b, .int .i64 (stepQ ⟨a, b, c, d⟩ ⟨p, q, r, s⟩ x).c, .int .i64 (stepQ ⟨a, b, c, d⟩ ⟨p, q, r, s⟩ x).d]⟩, .int .i64 (stepD ⟨a, b, c, d⟩ ⟨p, q, r, s⟩ x)]⟩) else none
  | _ => none
theorem step_sound : SoundQ Try.prog 121 (flatSem stepIF) := by
  refine flat_sound (env_ok (N := Try.f121.ntmps) (l := [e_turn, e_next, e_pass]) (live := []) (ord := [])) Try.func121 ?_
  intro args r h
  unfold stepIF at h
  split at h
  case h_2 => cases h
  rename_i a b c d p q r s x
  split at h <;> cases h
  rename_i hs
  refine ⟨rfl, rfl, ?_⟩
  obtain ⟨e1, e2, e3, e4⟩ := passI_ok (turn_sand x hs) (stepD_range x hs)
  simp only [stepQ, passQ]
  rw [← e1, ← e2, ← e3, ← e4]
  ((conv => whnf); refine body_in (by kernel_rfl) (fun K' hK => ?_))
  repeat' (first | (with_reducible refine Step.mk ?_) | ((with_reducible refine a_cons ?_); conv => whnf) | (with_reducible refine k_reg ?_) | (with_reducible refine a_nil ?_) | (with_reducible refine k_seq ?_) | (with_reducible refine w_seq ?_) | (with_reducible refine w_reg ?_) | ((with_reducible refine c_cons ?_); conv => whnf) | (with_reducible refine c_nil ?_) | ((with_reducible refine w_cond ?_); conv => whnf) | (with_reducible refine w_block ?_) | (with_reducible refine k_blk ?_) | (with_reducible refine w_exit ?_) | (with_reducible refine w_ret ?_) | (with_reducible refine w_skip ?_) | (with_reducible refine k_seqe ?_) | (with_reducible refine k_seqr ?_) | (with_reducible refine k_blkr ?_) | (with_reducible refine k_rnde ?_) | (with_reducible refine k_rndr ?_) | (with_reducible refine k_ale ?_) | (with_reducible refine k_alr ?_) | ((with_reducible refine k_blke ?_); conv => whnf) | ((with_reducible refine k_rndn ?_); conv => whnf) | ((with_reducible refine k_aln ?_); conv => whnf) | ((with_reducible refine k_lam ?_); conv => whnf) | ((with_reducible refine w_loop ?_); conv => whnf) | (with_reducible refine w_aloop ?_) | ((with_reducible refine q_cons ?_); conv => whnf) | (with_reducible refine q_nil ?_) | ((with_reducible refine w_isd ?_); first | refine dg_drawn rfl ?_ | refine dg_quiet rfl ?_ | refine dg_tree rfl ?_) | (with_reducible refine t_leaf ?_) | (with_reducible refine t_two ?_ ?_) | (with_reducible refine body_in (by kernel_rfl) (fun K' hK => ?_)) | (with_reducible refine kout (by assumption) ?_) | ((first | refine bcase_t (by with_reducible assumption) ?_ | refine bcase_f (by with_reducible assumption) ?_ | refine bcase_dt (by with_reducible assumption) ?_ | refine bcase_df (by with_reducible assumption) ?_ | refine bcase_t (by assumption) ?_ | refine bcase_f (by assumption) ?_ | refine bcase_dt (by assumption) ?_ | refine bcase_df (by assumption) ?_ | refine notsplit ?_ | refine dsplit (fun h => ?_) (fun h => ?_) | refine esplit (fun h => ?_) (fun h => ?_) | refine nsplit (fun h => ?_) (fun h => ?_) | refine bsplit (fun h => ?_) (fun h => ?_)) <;> conv => whnf) | (with_reducible refine Or.inl (Exists.intro 6 ?_)))
  all_goals rfl
def e_step : Ent Try.prog := .flat 121 stepIF ⟨_, Try.func121, rfl, by kernel_rfl⟩ step_sound

end Go.Proofs.Ytnnfbgonjonflaa
