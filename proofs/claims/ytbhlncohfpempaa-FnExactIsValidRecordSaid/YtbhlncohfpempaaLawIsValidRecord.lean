/- FnExactIsValidRecord: the program's IsValidRecord returns what the reference's returns, for all arguments; no condition. -/
import Derived.Test.YtbhlncohfpempaaStrRec
import Derived.Test.YtbhlncohfpempaaRows
set_option linter.unusedSimpArgs false
set_option linter.unusedVariables false
set_option maxRecDepth 100000
set_option maxHeartbeats 4000000
namespace Go.Proofs.Ytbhlncohfpempaa
open Go Go.Eng
open Go.ChangeShapes Go.WideShapes Go.ChangeAt Go.RowKit
theorem FnExactIsValidRecord_body (e_c : ByteArray) (e_r : ByteArray) (hm_e_c : e_c.size ≤ maxLen) (hm_e_r : e_r.size ≤ maxLen) : abody (env Try.f3.ntmps [e_szLogRecord, e_toLogRecord, e_sIsValidRecord, e_IsValidRecord] [] []) Try.f3 (inV [.v (.agg ⟨[.string e_c, .string e_r]⟩)] 0) (inH [.v (.agg ⟨[.string e_c, .string e_r]⟩)] 0) (inN [.v (.agg ⟨[.string e_c, .string e_r]⟩)] 0) fun r _ _ lo => r = .bool true ∧ Nat.ble (inN [.v (.agg ⟨[.string e_c, .string e_r]⟩)] 0) lo = true := by
  have hm1 : e_c.size ≤ 9223372036854775807 := by exact hm_e_c
  have hm2 : e_r.size ≤ 9223372036854775807 := by exact hm_e_r
  all_goals (((first | refine abody_nb (nb' := 0) rfl ?_ | refine abody_nb (nb' := 1) rfl ?_ | refine abody_nb (nb' := 2) rfl ?_ | refine abody_nb (nb' := 3) rfl ?_); (conv => whnf)); repeat' (first | (with_reducible refine Step.mk ?_) | ((with_reducible refine a_cons ?_); conv => whnf) | (with_reducible refine k_reg ?_) | (with_reducible refine a_nil ?_) | (with_reducible refine k_seq ?_) | (with_reducible refine w_seq ?_) | (with_reducible refine w_reg ?_) | ((with_reducible refine c_cons ?_); conv => whnf) | (with_reducible refine c_nil ?_) | ((with_reducible refine w_cond ?_); conv => whnf) | (with_reducible refine w_block ?_) | (with_reducible refine k_blk ?_) | (with_reducible refine w_exit ?_) | (with_reducible refine w_ret ?_) | (with_reducible refine w_skip ?_) | (with_reducible refine k_seqe ?_) | (with_reducible refine k_seqr ?_) | (with_reducible refine k_blkr ?_) | (with_reducible refine k_rnde ?_) | (with_reducible refine k_rndr ?_) | (with_reducible refine k_ale ?_) | (with_reducible refine k_alr ?_) | ((with_reducible refine k_blke ?_); conv => whnf) | ((with_reducible refine k_rndn ?_); conv => whnf) | ((with_reducible refine k_aln ?_); conv => whnf) | ((with_reducible refine k_lam ?_); conv => whnf) | ((with_reducible refine w_loop ?_); conv => whnf) | (with_reducible refine w_aloop ?_) | ((with_reducible refine q_cons ?_); conv => whnf) | (with_reducible refine q_nil ?_) | ((with_reducible refine w_isd ?_); first | refine dg_drawn rfl ?_ | refine dg_quiet rfl ?_) | (with_reducible refine body_in (by kernel_rfl) (fun K' hK => ?_)) | (with_reducible refine kout (by assumption) ?_) | ((first | refine WholeK.whole ⟨by first | rfl | omega | (simp; done), by (first | rfl | omega | (simp; done) | (simp; omega) | (simp [*]; done) | (simp [*]; omega))⟩ ?_ | refine WholeK.part ?_ | refine chk_intro (by (first | (simp [isOne]; done) | ((try simp only [Bool.and_eq_true, decide_eq_true_eq, Nat.blt_eq, Nat.ble_eq, Nat.beq_eq_true_eq]); simp [isOne]; omega) | (simp [-List.getD_eq_getElem?_getD, isOne, *]; done) | (simp [-List.getD_eq_getElem?_getD, isOne, *]; omega))) ?_ | refine bcase_t (by assumption) ?_ | refine bcase_f (by assumption) ?_ | refine bcase_dt (by assumption) ?_ | refine bcase_df (by assumption) ?_ | refine callD rfl ?_ | refine optK_if (by (first | assumption | (simp [isOne]; done) | ((try simp only [Bool.and_eq_true, decide_eq_true_eq, Nat.blt_eq, Nat.ble_eq, Nat.beq_eq_true_eq]); simp [isOne]; omega) | (simp [-List.getD_eq_getElem?_getD, isOne, *]; done) | (simp [-List.getD_eq_getElem?_getD, isOne, *]; omega) | omega)) ?_ | refine callBP (by (first | assumption | (simp [isOne]; done) | ((try simp only [Bool.and_eq_true, decide_eq_true_eq, Nat.blt_eq, Nat.ble_eq, Nat.beq_eq_true_eq]); simp [isOne]; omega) | (simp [-List.getD_eq_getElem?_getD, isOne, *]; done) | (simp [-List.getD_eq_getElem?_getD, isOne, *]; omega) | omega)) ?_ | refine callBN (by (first | (simp [isOne]; done) | ((try simp only [Bool.and_eq_true, decide_eq_true_eq, Nat.blt_eq, Nat.ble_eq, Nat.beq_eq_true_eq]); simp [isOne]; omega) | (simp [-List.getD_eq_getElem?_getD, isOne, *]; done) | (simp [-List.getD_eq_getElem?_getD, isOne, *]; omega))) ?_ | refine callM rfl ?_ | refine callS ?_ | refine callB (fun h => ?_) (fun h => ?_) | refine notsplit ?_ | refine bcase_dt (by omega) ?_ | refine bcase_df (by omega) ?_ | refine dsplit (fun h => ?_) (fun h => ?_) | refine esplit (fun h => ?_) (fun h => ?_) | refine nsplit (fun h => ?_) (fun h => ?_) | refine bsplit (fun h => ?_) (fun h => ?_)) <;> conv => whnf)))
  all_goals (first | exact ⟨rfl, rfl⟩ | (exfalso; (try clear hK); first | contradiction | omega | (simp_all; done) | (simp_all; omega)))
theorem FnExactIsValidRecord_handed (os : Os) (started : os.Started) (H : Type) (enc : TypeId × Value → H) :
    ReturnsInHanded {} Try.checked os 3 .any (Rows.fnExactIsValidRecordSpec.pre6 enc Try.prog Try.f3 Rows.fnExactIsValidRecordRow.domain false) (Rows.fnExactIsValidRecordSpec.post enc Try.prog Try.f3 false true false false) := by
  refine law_handed (C := Try.checked) Try.own started (by kernel_rfl) Try.func3 rfl rfl Try.underlying4 (fun ds h => ?_) Try.laidOut (by kernel_rfl)
    (ChangeSpec.witness6 (enc := enc) (C := Try.checked) false ⟨#[], #[.agg #[.string .empty, .string .empty]], []⟩ 20 (by kernel_rfl) (by kernel_rfl) (by kernel_rfl) (by kernel_rfl)) ?_
  · match ds, h with
    | [d0], _ => rfl
  · intro W base args ds ps hval0 hA0
    have hval : ∀ (j : Nat) t v, Try.f3.params[j]? = some t → args[j]? = some v → Value.okWide Try.prog W .any base t v := hval0
    have hA : DataW.TrodAll enc Try.prog W 0 (fun _ => true) true Try.f3.params.toList args.toList ds ps := hA0
    rw [Try.params3] at hA hval
    obtain ⟨v0, d0, rfl, rfl, h0⟩ := trodAll_one hA
    obtain ⟨l0, rfl, g0⟩ := agg_arg (n := 20) (ds := [.string, .string]) Try.underlying23 rfl (by kernel_rfl) (hval 0 _ _ rfl rfl) h0
    obtain ⟨e_c, l0, rfl, w_e_c, g0⟩ := leaf_string g0
    obtain ⟨e_r, l0, rfl, w_e_r, g0⟩ := leaf_string g0
    obtain rfl := leaf_nil g0
    exact law_deep (ds := [.v (.agg ⟨[.string e_c, .string e_r]⟩)]) (env_ok (N := Try.f3.ntmps) (l := [e_szLogRecord, e_toLogRecord, e_sIsValidRecord, e_IsValidRecord]) (live := []) (ord := [])) Try.func3 ⟨⟨rfl, rfl⟩, trivial⟩ (FnExactIsValidRecord_body e_c e_r w_e_c w_e_r)
theorem FnExactIsValidRecord_holds : Rows.FnExactIsValidRecordSaid :=
  OpenClaim.holds_of_wide 3 Try.f3 rfl rfl rfl rfl rfl rfl rfl ⟨rfl, rfl, rfl, rfl, rfl⟩ rfl rfl rfl rfl rfl (by kernel_rfl) Try.func3 (by kernel_rfl)
    (of_decide_eq_true (by kernel_rfl)) (by unfold Func.isWrapper; first | (rw [if_pos (by decide +kernel)]; kernel_rfl) | (rw [if_neg (by decide +kernel)]; exact ⟨rfl, rfl⟩))
    (fun os started H enc _ => FnExactIsValidRecord_handed os started H enc)

end Go.Proofs.Ytbhlncohfpempaa
