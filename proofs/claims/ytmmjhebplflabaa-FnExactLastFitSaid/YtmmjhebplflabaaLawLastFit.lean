/- FnExactLastFit: the program's LastFit returns what the reference's returns, for all arguments; no condition. -/
import Derived.Test.YtmmjhebplflabaaFit
import Derived.Test.YtmmjhebplflabaaInts
import Derived.Test.YtmmjhebplflabaaRows
set_option linter.unusedSimpArgs false
set_option linter.unusedVariables false
set_option maxRecDepth 100000
set_option maxHeartbeats 4000000
namespace Go.Proofs.Ytmmjhebplflabaa
open Go Go.Eng
open Go.ChangeShapes Go.WideShapes Go.ChangeAt Go.RowKit
theorem wf_range {x : Int} (h : (Lit.int .i64 x).wf = true) : -9223372036854775808 ≤ x ∧ x ≤ 9223372036854775807 := by
  simp only [Lit.wf, Bool.and_eq_true, decide_eq_true_eq] at h
  have e1 : IntKind.i64.min = -9223372036854775808 := rfl
  have e2 : IntKind.i64.max = 9223372036854775807 := rfl
  rw [e1, e2] at h; exact h
theorem FnExactLastFit_body (k_a : Int) (k_b : Int) (k_c : Int) (k_d : Int) (n_l : Nat) (l : List Int) (d_l : DV) (d_m : Int) (d_f : Int) (d_t : Int) (hd_l : (d_l = .nil ∧ l = [] ∧ n_l = 0) ∨ d_l = .sl 1 n_l (.ints .i64 l)) (hl_l : l.length = n_l * 1) (hm_l : (n_l : Int) ≤ 9223372036854775807) (hr_d : (-9223372036854775808 ≤ d_m ∧ d_m ≤ 9223372036854775807) ∧ (-9223372036854775808 ≤ d_f ∧ d_f ≤ 9223372036854775807) ∧ (-9223372036854775808 ≤ d_t ∧ d_t ≤ 9223372036854775807)) : abody (env Try.f14.ntmps [e_sLastFit, e_toKit, e_toIntS, e_toDish, e_LastFit, e_eqIntS] [] [(3, .draw [(0, []), (2, []), (4, []), (1, []), (3, []), (5, []), (6, []), (7, []), (8, []), (9, []), (10, []), (11, [])] []), (5, .draw [(0, []), (2, []), (3, []), (1, []), (4, []), (5, []), (6, []), (7, []), (8, []), (9, []), (10, [])] [])]) Try.f14 (inV [.v (.agg ⟨[.int .i64 k_a, .int .i64 k_b, .int .i64 k_c, .int .i64 k_d]⟩), d_l, .v (.agg ⟨[.int .i64 d_m, .int .i64 d_f, .int .i64 d_t]⟩)] 0) (inH [.v (.agg ⟨[.int .i64 k_a, .int .i64 k_b, .int .i64 k_c, .int .i64 k_d]⟩), d_l, .v (.agg ⟨[.int .i64 d_m, .int .i64 d_f, .int .i64 d_t]⟩)] 0) (inN [.v (.agg ⟨[.int .i64 k_a, .int .i64 k_b, .int .i64 k_c, .int .i64 k_d]⟩), d_l, .v (.agg ⟨[.int .i64 d_m, .int .i64 d_f, .int .i64 d_t]⟩)] 0) fun r _ _ lo => r = .bool true ∧ Nat.ble (inN [.v (.agg ⟨[.int .i64 k_a, .int .i64 k_b, .int .i64 k_c, .int .i64 k_d]⟩), d_l, .v (.agg ⟨[.int .i64 d_m, .int .i64 d_f, .int .i64 d_t]⟩)] 0) lo = true := by
  rcases hd_l with ⟨rfl, rfl, rfl⟩ | rfl
  all_goals (((first | refine abody_nb (nb' := 0) rfl ?_ | refine abody_nb (nb' := 1) rfl ?_ | refine abody_nb (nb' := 2) rfl ?_ | refine abody_nb (nb' := 3) rfl ?_); (conv => whnf)); repeat' (first | (with_reducible refine Step.mk ?_) | ((with_reducible refine a_cons ?_); conv => whnf) | (with_reducible refine k_reg ?_) | (with_reducible refine a_nil ?_) | (with_reducible refine k_seq ?_) | (with_reducible refine w_seq ?_) | (with_reducible refine w_reg ?_) | ((with_reducible refine c_cons ?_); conv => whnf) | (with_reducible refine c_nil ?_) | ((with_reducible refine w_cond ?_); conv => whnf) | (with_reducible refine w_block ?_) | (with_reducible refine k_blk ?_) | (with_reducible refine w_exit ?_) | (with_reducible refine w_ret ?_) | (with_reducible refine w_skip ?_) | (with_reducible refine k_seqe ?_) | (with_reducible refine k_seqr ?_) | (with_reducible refine k_blkr ?_) | (with_reducible refine k_rnde ?_) | (with_reducible refine k_rndr ?_) | (with_reducible refine k_ale ?_) | (with_reducible refine k_alr ?_) | ((with_reducible refine k_blke ?_); conv => whnf) | ((with_reducible refine k_rndn ?_); conv => whnf) | ((with_reducible refine k_aln ?_); conv => whnf) | ((with_reducible refine k_lam ?_); conv => whnf) | ((with_reducible refine w_loop ?_); conv => whnf) | (with_reducible refine w_aloop ?_) | ((with_reducible refine q_cons ?_); conv => whnf) | (with_reducible refine q_nil ?_) | ((with_reducible refine w_isd ?_); first | refine dg_drawn rfl ?_ | refine dg_quiet rfl ?_) | (with_reducible refine body_in (by kernel_rfl) (fun K' hK => ?_)) | (with_reducible refine kout (by assumption) ?_) | ((first | refine WholeK.whole ⟨by first | rfl | omega | (simp; done), by (first | rfl | omega | (simp; done) | (simp; omega) | (simp [*]; done) | (simp [*]; omega))⟩ ?_ | refine WholeK.part ?_ | refine chk_intro (by (first | (simp [isOne]; done) | ((try simp only [Bool.and_eq_true, decide_eq_true_eq, Nat.blt_eq, Nat.ble_eq, Nat.beq_eq_true_eq]); simp [isOne]; omega) | (simp [-List.getD_eq_getElem?_getD, isOne, *]; done) | (simp [-List.getD_eq_getElem?_getD, isOne, *]; omega))) ?_ | refine bcase_t (by assumption) ?_ | refine bcase_f (by assumption) ?_ | refine bcase_dt (by assumption) ?_ | refine bcase_df (by assumption) ?_ | refine callD rfl ?_ | refine optK_if (by (first | assumption | (simp [isOne]; done) | ((try simp only [Bool.and_eq_true, decide_eq_true_eq, Nat.blt_eq, Nat.ble_eq, Nat.beq_eq_true_eq]); simp [isOne]; omega) | (simp [-List.getD_eq_getElem?_getD, isOne, *]; done) | (simp [-List.getD_eq_getElem?_getD, isOne, *]; omega) | omega)) ?_ | refine callBP (by (first | assumption | (simp [isOne]; done) | ((try simp only [Bool.and_eq_true, decide_eq_true_eq, Nat.blt_eq, Nat.ble_eq, Nat.beq_eq_true_eq]); simp [isOne]; omega) | (simp [-List.getD_eq_getElem?_getD, isOne, *]; done) | (simp [-List.getD_eq_getElem?_getD, isOne, *]; omega) | omega)) ?_ | refine callBN (by (first | (simp [isOne]; done) | ((try simp only [Bool.and_eq_true, decide_eq_true_eq, Nat.blt_eq, Nat.ble_eq, Nat.beq_eq_true_eq]); simp [isOne]; omega) | (simp [-List.getD_eq_getElem?_getD, isOne, *]; done) | (simp [-List.getD_eq_getElem?_getD, isOne, *]; omega))) ?_ | refine callM rfl ?_ | refine callS ?_ | refine callB (fun h => ?_) (fun h => ?_) | refine notsplit ?_ | refine bcase_dt (by omega) ?_ | refine bcase_df (by omega) ?_ | refine dsplit (fun h => ?_) (fun h => ?_) | refine esplit (fun h => ?_) (fun h => ?_) | refine nsplit (fun h => ?_) (fun h => ?_) | refine bsplit (fun h => ?_) (fun h => ?_)) <;> conv => whnf)))
  all_goals (first | exact ⟨rfl, rfl⟩ | (exfalso; (try clear hK); first | contradiction | omega | (simp_all; done) | (simp_all; omega)))
theorem FnExactLastFit_handed (os : Os) (started : os.Started) (H : Type) (enc : TypeId × Value → H) :
    ReturnsInHanded {} Try.checked os 14 .any (Rows.fnExactLastFitSpec.pre6 enc Try.prog Try.f14 Rows.fnExactLastFitRow.domain false) (Rows.fnExactLastFitSpec.post enc Try.prog Try.f14 false true false false) := by
  refine law_handed (C := Try.checked) Try.own started (by kernel_rfl) Try.func14 rfl rfl Try.underlying4 (fun ds h => ?_) Try.laidOut (by kernel_rfl)
    (ChangeSpec.witness6 (enc := enc) (C := Try.checked) false ⟨#[], #[.agg #[.int .i64 0, .int .i64 0, .int .i64 0, .int .i64 0], .slice none 0 0, .agg #[.int .i64 0, .int .i64 0, .int .i64 0]], []⟩ 20 (by kernel_rfl) (by kernel_rfl) (by kernel_rfl) (by kernel_rfl)) ?_
  · match ds, h with
    | [d0, d1, d2], _ => rfl
  · intro W base args ds ps hval0 hA0
    have hval : ∀ (j : Nat) t v, Try.f14.params[j]? = some t → args[j]? = some v → Value.okWide Try.prog W .any base t v := hval0
    have hA : DataW.TrodAll enc Try.prog W 0 (fun _ => true) true Try.f14.params.toList args.toList ds ps := hA0
    rw [Try.params14] at hA hval
    obtain ⟨v0, v1, v2, d0, d1, d2, p0, p1, p2, rfl, rfl, rfl, h0, h1, h2⟩ := trodAll_three hA
    obtain ⟨l0, rfl, g0⟩ := agg_arg (n := 20) (ds := List.replicate 4 (.int .i64)) Try.underlying24 rfl (by kernel_rfl) (hval 0 _ _ rfl rfl) h0
    obtain ⟨xs0, e0, rfl, w0⟩ := int_list g0
    match xs0, e0 with
    | [k_a, k_b, k_c, k_d], _ =>
    obtain ⟨n_l, l, d_l, hd_l, hl_l, hm_l, hk_l⟩ := slice_law (n := 20) (es := 1) Try.underlying47 (by kernel_rfl) (by kernel_rfl) (by omega) (hval 1 _ _ rfl rfl) h1
    obtain ⟨l2, rfl, g2⟩ := agg_arg (n := 20) (ds := List.replicate 3 (.int .i64)) Try.underlying72 rfl (by kernel_rfl) (hval 2 _ _ rfl rfl) h2
    obtain ⟨xs2, e2, rfl, w2⟩ := int_list g2
    match xs2, e2 with
    | [d_m, d_f, d_t], _ =>
    exact law_deep (ds := [.v (.agg ⟨[.int .i64 k_a, .int .i64 k_b, .int .i64 k_c, .int .i64 k_d]⟩), d_l, .v (.agg ⟨[.int .i64 d_m, .int .i64 d_f, .int .i64 d_t]⟩)]) (env_ok (N := Try.f14.ntmps) (l := [e_sLastFit, e_toKit, e_toIntS, e_toDish, e_LastFit, e_eqIntS]) (live := []) (ord := [(3, .draw [(0, []), (2, []), (4, []), (1, []), (3, []), (5, []), (6, []), (7, []), (8, []), (9, []), (10, []), (11, [])] []), (5, .draw [(0, []), (2, []), (3, []), (1, []), (4, []), (5, []), (6, []), (7, []), (8, []), (9, []), (10, [])] [])])) Try.func14 ⟨⟨rfl, rfl⟩, hk_l, ⟨rfl, rfl⟩, trivial⟩ (FnExactLastFit_body k_a k_b k_c k_d n_l l d_l d_m d_f d_t hd_l hl_l hm_l ⟨wf_range (w2 d_m (by simp)), wf_range (w2 d_f (by simp)), wf_range (w2 d_t (by simp))⟩)
theorem FnExactLastFit_holds : Rows.FnExactLastFitSaid :=
  OpenClaim.holds_of_wide 14 Try.f14 rfl rfl rfl rfl rfl rfl rfl ⟨rfl, rfl, rfl, rfl, rfl⟩ rfl rfl rfl rfl rfl (by kernel_rfl) Try.func14 (by kernel_rfl)
    (of_decide_eq_true (by kernel_rfl)) (by unfold Func.isWrapper; first | (rw [if_pos (by decide +kernel)]; kernel_rfl) | (rw [if_neg (by decide +kernel)]; exact ⟨rfl, rfl⟩))
    (fun os started H enc _ => FnExactLastFit_handed os started H enc)

end Go.Proofs.Ytmmjhebplflabaa
