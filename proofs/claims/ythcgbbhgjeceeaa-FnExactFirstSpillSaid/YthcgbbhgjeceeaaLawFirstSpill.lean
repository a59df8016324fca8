/- FnExactFirstSpill: the program's FirstSpill returns what the reference's returns, for all arguments; no condition. -/
import Derived.Test.YthcgbbhgjeceeaaVessF
import Derived.Test.YthcgbbhgjeceeaaVesLaw
import Derived.Test.YthcgbbhgjeceeaaRows
set_option linter.unusedSimpArgs false
set_option linter.unusedVariables false
set_option maxRecDepth 100000
set_option maxHeartbeats 4000000
namespace Go.Proofs.Ythcgbbhgjeceeaa
open Go Go.Eng
open Go.ChangeShapes Go.WideShapes Go.ChangeAt Go.RowKit
theorem FnExactFirstSpill_body (n_l : Nat) (l : List Int) (d_l : DV) (n_p : Nat) (p : List Int) (d_p : DV) (hd_l : (d_l = .nil ∧ l = [] ∧ n_l = 0) ∨ d_l = .sl 3 n_l (.ints .i64 l)) (hl_l : l.length = n_l * 3) (hm_l : (n_l : Int) ≤ 9223372036854775807) (hd_p : (d_p = .nil ∧ p = [] ∧ n_p = 0) ∨ d_p = .sl 1 n_p (.ints .i64 p)) (hl_p : p.length = n_p * 1) (hm_p : (n_p : Int) ≤ 9223372036854775807) : abody (env Try.f6.ntmps [e_sFirstSpill, e_toVesselS, e_toIntS, e_FirstSpill, e_eqVesselS, e_eqIntS, e_szVesselS] [] []) Try.f6 (inV [d_l, d_p] 0) (inH [d_l, d_p] 0) (inN [d_l, d_p] 0) fun r _ _ lo => r = .bool true ∧ Nat.ble (inN [d_l, d_p] 0) lo = true := by
  rcases hd_l with ⟨rfl, rfl, rfl⟩ | rfl
  all_goals rcases hd_p with ⟨rfl, rfl, rfl⟩ | rfl
  all_goals (((first | refine abody_nb (nb' := 0) rfl ?_ | refine abody_nb (nb' := 1) rfl ?_ | refine abody_nb (nb' := 2) rfl ?_ | refine abody_nb (nb' := 3) rfl ?_); (conv => whnf)); repeat' (first | (with_reducible refine Step.mk ?_) | ((with_reducible refine a_cons ?_); conv => whnf) | (with_reducible refine k_reg ?_) | (with_reducible refine a_nil ?_) | (with_reducible refine k_seq ?_) | (with_reducible refine w_seq ?_) | (with_reducible refine w_reg ?_) | ((with_reducible refine c_cons ?_); conv => whnf) | (with_reducible refine c_nil ?_) | ((with_reducible refine w_cond ?_); conv => whnf) | (with_reducible refine w_block ?_) | (with_reducible refine k_blk ?_) | (with_reducible refine w_exit ?_) | (with_reducible refine w_ret ?_) | (with_reducible refine w_skip ?_) | (with_reducible refine k_seqe ?_) | (with_reducible refine k_seqr ?_) | (with_reducible refine k_blkr ?_) | (with_reducible refine k_rnde ?_) | (with_reducible refine k_rndr ?_) | (with_reducible refine k_ale ?_) | (with_reducible refine k_alr ?_) | ((with_reducible refine k_blke ?_); conv => whnf) | ((with_reducible refine k_rndn ?_); conv => whnf) | ((with_reducible refine k_aln ?_); conv => whnf) | ((with_reducible refine k_lam ?_); conv => whnf) | ((with_reducible refine w_loop ?_); conv => whnf) | (with_reducible refine w_aloop ?_) | ((with_reducible refine q_cons ?_); conv => whnf) | (with_reducible refine q_nil ?_) | ((with_reducible refine w_isd ?_); first | refine dg_drawn rfl ?_ | refine dg_quiet rfl ?_) | (with_reducible refine body_in (by kernel_rfl) (fun K' hK => ?_)) | (with_reducible refine kout (by assumption) ?_) | ((first | refine WholeK.whole ⟨by first | rfl | omega | (simp; done), by (first | rfl | omega | (simp; done) | (simp; omega) | (simp [*]; done) | (simp [*]; omega))⟩ ?_ | refine WholeK.part ?_ | refine chk_intro (by (first | (simp [isOne]; done) | ((try simp only [Bool.and_eq_true, decide_eq_true_eq, Nat.blt_eq, Nat.ble_eq, Nat.beq_eq_true_eq]); simp [isOne]; omega) | (simp [-List.getD_eq_getElem?_getD, isOne, *]; done) | (simp [-List.getD_eq_getElem?_getD, isOne, *]; omega))) ?_ | refine bcase_t (by assumption) ?_ | refine bcase_f (by assumption) ?_ | refine bcase_dt (by assumption) ?_ | refine bcase_df (by assumption) ?_ | refine callD rfl ?_ | refine optK_if (by (first | assumption | (simp [isOne]; done) | ((try simp only [Bool.and_eq_true, decide_eq_true_eq, Nat.blt_eq, Nat.ble_eq, Nat.beq_eq_true_eq]); simp [isOne]; omega) | (simp [-List.getD_eq_getElem?_getD, isOne, *]; done) | (simp [-List.getD_eq_getElem?_getD, isOne, *]; omega) | omega)) ?_ | refine callBP (by (first | assumption | (simp [isOne]; done) | ((try simp only [Bool.and_eq_true, decide_eq_true_eq, Nat.blt_eq, Nat.ble_eq, Nat.beq_eq_true_eq]); simp [isOne]; omega) | (simp [-List.getD_eq_getElem?_getD, isOne, *]; done) | (simp [-List.getD_eq_getElem?_getD, isOne, *]; omega) | omega)) ?_ | refine callBN (by (first | (simp [isOne]; done) | ((try simp only [Bool.and_eq_true, decide_eq_true_eq, Nat.blt_eq, Nat.ble_eq, Nat.beq_eq_true_eq]); simp [isOne]; omega) | (simp [-List.getD_eq_getElem?_getD, isOne, *]; done) | (simp [-List.getD_eq_getElem?_getD, isOne, *]; omega))) ?_ | refine callM rfl ?_ | refine callS ?_ | refine callB (fun h => ?_) (fun h => ?_) | refine notsplit ?_ | refine bcase_dt (by omega) ?_ | refine bcase_df (by omega) ?_ | refine dsplit (fun h => ?_) (fun h => ?_) | refine esplit (fun h => ?_) (fun h => ?_) | refine nsplit (fun h => ?_) (fun h => ?_) | refine bsplit (fun h => ?_) (fun h => ?_)) <;> conv => whnf)))
  all_goals (first | exact ⟨rfl, rfl⟩ | (exfalso; (try clear hK); first | contradiction | omega | (simp_all; done) | (simp_all; omega)))
theorem FnExactFirstSpill_handed (os : Os) (started : os.Started) (H : Type) (enc : TypeId × Value → H) :
    ReturnsInHanded {} Try.checked os 6 .any (Rows.fnExactFirstSpillSpec.pre6 enc Try.prog Try.f6 Rows.fnExactFirstSpillRow.domain false) (Rows.fnExactFirstSpillSpec.post enc Try.prog Try.f6 false true false false) := by
  refine law_handed (C := Try.checked) Try.own started (by kernel_rfl) Try.func6 rfl rfl Try.underlying4 (fun ds h => ?_) Try.laidOut (by kernel_rfl)
    (ChangeSpec.witness6 (enc := enc) (C := Try.checked) false ⟨#[], #[.slice none 0 0, .slice none 0 0], []⟩ 20 (by kernel_rfl) (by kernel_rfl) (by kernel_rfl) (by kernel_rfl)) ?_
  · match ds, h with
    | [d0, d1], _ => rfl
  · intro W base args ds ps hval0 hA0
    have hval : ∀ (j : Nat) t v, Try.f6.params[j]? = some t → args[j]? = some v → Value.okWide Try.prog W .any base t v := hval0
    have hA : DataW.TrodAll enc Try.prog W 0 (fun _ => true) true Try.f6.params.toList args.toList ds ps := hA0
    rw [Try.params6] at hA hval
    obtain ⟨v0, v1, d0, d1, p0, p1, rfl, rfl, rfl, h0, h1⟩ := trodAll_two hA
    obtain ⟨n_l, l, d_l, hd_l, hl_l, hm_l, hk_l⟩ := slice_law (n := 20) (es := 3) Try.underlying22 (by kernel_rfl) (by kernel_rfl) (by omega) (hval 0 _ _ rfl rfl) h0
    obtain ⟨n_p, p, d_p, hd_p, hl_p, hm_p, hk_p⟩ := slice_law (n := 20) (es := 1) Try.underlying23 (by kernel_rfl) (by kernel_rfl) (by omega) (hval 1 _ _ rfl rfl) h1
    exact law_deep (ds := [d_l, d_p]) (env_ok (N := Try.f6.ntmps) (l := [e_sFirstSpill, e_toVesselS, e_toIntS, e_FirstSpill, e_eqVesselS, e_eqIntS, e_szVesselS]) (live := []) (ord := [])) Try.func6 ⟨hk_l, hk_p, trivial⟩ (FnExactFirstSpill_body n_l l d_l n_p p d_p hd_l hl_l hm_l hd_p hl_p hm_p)
theorem FnExactFirstSpill_holds : Rows.FnExactFirstSpillSaid :=
  OpenClaim.holds_of_wide 6 Try.f6 rfl rfl rfl rfl rfl rfl rfl ⟨rfl, rfl, rfl, rfl, rfl⟩ rfl rfl rfl rfl rfl (by kernel_rfl) Try.func6 (by kernel_rfl)
    (of_decide_eq_true (by kernel_rfl)) (by unfold Func.isWrapper; first | (rw [if_pos (by decide +kernel)]; kernel_rfl) | (rw [if_neg (by decide +kernel)]; exact ⟨rfl, rfl⟩))
    (fun os started H enc _ => FnExactFirstSpill_handed os started H enc)

end Go.Proofs.Ythcgbbhgjeceeaa
