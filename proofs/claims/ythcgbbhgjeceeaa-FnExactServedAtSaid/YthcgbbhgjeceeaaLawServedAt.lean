/- FnExactServedAt: the program's ServedAt returns what the reference's returns, for all arguments; no condition. -/
import Derived.Test.YthcgbbhgjeceeaaServe
import Derived.Test.YthcgbbhgjeceeaaDishLaw
import Derived.Test.YthcgbbhgjeceeaaInts
import Derived.Test.YthcgbbhgjeceeaaRows
set_option linter.unusedSimpArgs false
set_option linter.unusedVariables false
set_option maxRecDepth 100000
set_option maxHeartbeats 4000000
namespace Go.Proofs.Ythcgbbhgjeceeaa
open Go Go.Eng
open Go.ChangeShapes Go.WideShapes Go.ChangeAt Go.RowKit
theorem wf_range {x : Int} (h : (Lit.int .i64 x).wf = true) : -9223372036854775808 ≤ x ∧ x ≤ 9223372036854775807 := by
  simp only [Lit.wf, Bool.and_eq_true, decide_eq_true_eq] at h
  have e1 : IntKind.i64.min = -9223372036854775808 := rfl
  have e2 : IntKind.i64.max = 9223372036854775807 := rfl
  rw [e1, e2] at h; exact h
theorem slice_lawR {P : Program} {H : Type} {enc : TypeId × Value → H} {W : World} {base : Nat} {t e n es : Nat} {v : Value} {d : DataW H} {ps : List MemPlace} (hu : P.underlying t = some (.slice e)) (hf : flatTys P n e = some (List.replicate es (.int .i64))) (hce : P.cellsOf e = es) (hes : 0 < es)
    (hv : Value.okWide P W .any base t v) (h : DataW.Trod enc P W 0 (fun _ => true) true t v d ps) :
    ∃ (len : Nat) (l : List Int) (dv : DV), ((dv = .nil ∧ l = [] ∧ len = 0) ∨ dv = .sl es len (.ints .i64 l)) ∧ l.length = len * es ∧ (len : Int) ≤ 9223372036854775807 ∧ ArgOk noB noH 0 W dv v ∧ ∀ x ∈ l, (Lit.int .i64 x).wf = true := by
  rcases slice_ints hu hf hce hes hv h with rfl | ⟨len, l, h1, h2, h3, h4⟩
  · exact ⟨0, [], .nil, .inl ⟨rfl, rfl, rfl⟩, by simp, by simp, rfl, fun x hx => by cases hx⟩
  · exact ⟨len, l, _, .inr rfl, h1, by simp [maxLen] at h3; omega, h4, h2⟩
theorem FnExactServedAt_body (k_a : Int) (k_b : Int) (k_c : Int) (k_d : Int) (n_p : Nat) (p : List Int) (d_p : DV) (n_l : Nat) (l : List Int) (d_l : DV) (hd_p : (d_p = .nil ∧ p = [] ∧ n_p = 0) ∨ d_p = .sl 1 n_p (.ints .i64 p)) (hl_p : p.length = n_p * 1) (hm_p : (n_p : Int) ≤ 9223372036854775807) (hd_l : (d_l = .nil ∧ l = [] ∧ n_l = 0) ∨ d_l = .sl 3 n_l (.ints .i64 l)) (hl_l : l.length = n_l * 3) (hm_l : (n_l : Int) ≤ 9223372036854775807) (hr_l : ∀ i, i < l.length → l.getD i 0 ≤ 9223372036854775807) : abody (env Try.f8.ntmps [e_sServedAt, e_toKit, e_toIntS, e_toDishS, e_ServedAt, e_eqIntS, e_eqDishS, e_szDishS] [] []) Try.f8 (inV [.v (.agg ⟨[.int .i64 k_a, .int .i64 k_b, .int .i64 k_c, .int .i64 k_d]⟩), d_p, d_l] 0) (inH [.v (.agg ⟨[.int .i64 k_a, .int .i64 k_b, .int .i64 k_c, .int .i64 k_d]⟩), d_p, d_l] 0) (inN [.v (.agg ⟨[.int .i64 k_a, .int .i64 k_b, .int .i64 k_c, .int .i64 k_d]⟩), d_p, d_l] 0) fun r _ _ lo => r = .bool true ∧ Nat.ble (inN [.v (.agg ⟨[.int .i64 k_a, .int .i64 k_b, .int .i64 k_c, .int .i64 k_d]⟩), d_p, d_l] 0) lo = true := by
  rcases hd_p with ⟨rfl, rfl, rfl⟩ | rfl
  all_goals rcases hd_l with ⟨rfl, rfl, rfl⟩ | rfl
  all_goals (((first | refine abody_nb (nb' := 0) rfl ?_ | refine abody_nb (nb' := 1) rfl ?_ | refine abody_nb (nb' := 2) rfl ?_ | refine abody_nb (nb' := 3) rfl ?_); (conv => whnf)); repeat' (first | (with_reducible refine Step.mk ?_) | ((with_reducible refine a_cons ?_); conv => whnf) | (with_reducible refine k_reg ?_) | (with_reducible refine a_nil ?_) | (with_reducible refine k_seq ?_) | (with_reducible refine w_seq ?_) | (with_reducible refine w_reg ?_) | ((with_reducible refine c_cons ?_); conv => whnf) | (with_reducible refine c_nil ?_) | ((with_reducible refine w_cond ?_); conv => whnf) | (with_reducible refine w_block ?_) | (with_reducible refine k_blk ?_) | (with_reducible refine w_exit ?_) | (with_reducible refine w_ret ?_) | (with_reducible refine w_skip ?_) | (with_reducible refine k_seqe ?_) | (with_reducible refine k_seqr ?_) | (with_reducible refine k_blkr ?_) | (with_reducible refine k_rnde ?_) | (with_reducible refine k_rndr ?_) | (with_reducible refine k_ale ?_) | (with_reducible refine k_alr ?_) | ((with_reducible refine k_blke ?_); conv => whnf) | ((with_reducible refine k_rndn ?_); conv => whnf) | ((with_reducible refine k_aln ?_); conv => whnf) | ((with_reducible refine k_lam ?_); conv => whnf) | ((with_reducible refine w_loop ?_); conv => whnf) | (with_reducible refine w_aloop ?_) | ((with_reducible refine q_cons ?_); conv => whnf) | (with_reducible refine q_nil ?_) | ((with_reducible refine w_isd ?_); first | refine dg_drawn rfl ?_ | refine dg_quiet rfl ?_) | (with_reducible refine body_in (by kernel_rfl) (fun K' hK => ?_)) | (with_reducible refine kout (by assumption) ?_) | ((first | refine WholeK.whole ⟨by first | rfl | omega | (simp; done), by (first | rfl | omega | (simp; done) | (simp; omega) | (simp [*]; done) | (simp [*]; omega))⟩ ?_ | refine WholeK.part ?_ | refine chk_intro (by (first | (simp [isOne]; done) | ((try simp only [Bool.and_eq_true, decide_eq_true_eq, Nat.blt_eq, Nat.ble_eq, Nat.beq_eq_true_eq]); simp [isOne]; omega) | (simp [-List.getD_eq_getElem?_getD, isOne, *]; done) | (simp [-List.getD_eq_getElem?_getD, isOne, *]; omega))) ?_ | refine bcase_t (by assumption) ?_ | refine bcase_f (by assumption) ?_ | refine bcase_dt (by assumption) ?_ | refine bcase_df (by assumption) ?_ | refine callD rfl ?_ | refine optK_if (by (first | assumption | (simp [isOne]; done) | ((try simp only [Bool.and_eq_true, decide_eq_true_eq, Nat.blt_eq, Nat.ble_eq, Nat.beq_eq_true_eq]); simp [isOne]; omega) | (simp [-List.getD_eq_getElem?_getD, isOne, *]; done) | (simp [-List.getD_eq_getElem?_getD, isOne, *]; omega) | omega)) ?_ | refine callBP (by (first | assumption | (simp [isOne]; done) | ((try simp only [Bool.and_eq_true, decide_eq_true_eq, Nat.blt_eq, Nat.ble_eq, Nat.beq_eq_true_eq]); simp [isOne]; omega) | (simp [-List.getD_eq_getElem?_getD, isOne, *]; done) | (simp [-List.getD_eq_getElem?_getD, isOne, *]; omega) | omega)) ?_ | refine callBN (by (first | (simp [isOne]; done) | ((try simp only [Bool.and_eq_true, decide_eq_true_eq, Nat.blt_eq, Nat.ble_eq, Nat.beq_eq_true_eq]); simp [isOne]; omega) | (simp [-List.getD_eq_getElem?_getD, isOne, *]; done) | (simp [-List.getD_eq_getElem?_getD, isOne, *]; omega))) ?_ | refine callM rfl ?_ | refine callS ?_ | refine callB (fun h => ?_) (fun h => ?_) | refine notsplit ?_ | refine bcase_dt (by omega) ?_ | refine bcase_df (by omega) ?_ | refine dsplit (fun h => ?_) (fun h => ?_) | refine esplit (fun h => ?_) (fun h => ?_) | refine nsplit (fun h => ?_) (fun h => ?_) | refine bsplit (fun h => ?_) (fun h => ?_)) <;> conv => whnf)))
  all_goals (first | exact ⟨rfl, rfl⟩ | (exfalso; (try clear hK); first | contradiction | omega | (simp_all; done) | (simp_all; omega)))
theorem FnExactServedAt_handed (os : Os) (started : os.Started) (H : Type) (enc : TypeId × Value → H) :
    ReturnsInHanded {} Try.checked os 8 .any (Rows.fnExactServedAtSpec.pre6 enc Try.prog Try.f8 Rows.fnExactServedAtRow.domain false) (Rows.fnExactServedAtSpec.post enc Try.prog Try.f8 false true false false) := by
  refine law_handed (C := Try.checked) Try.own started (by kernel_rfl) Try.func8 rfl rfl Try.underlying4 (fun ds h => ?_) Try.laidOut (by kernel_rfl)
    (ChangeSpec.witness6 (enc := enc) (C := Try.checked) false ⟨#[], #[.agg #[.int .i64 0, .int .i64 0, .int .i64 0, .int .i64 0], .slice none 0 0, .slice none 0 0], []⟩ 20 (by kernel_rfl) (by kernel_rfl) (by kernel_rfl) (by kernel_rfl)) ?_
  · match ds, h with
    | [d0, d1, d2], _ => rfl
  · intro W base args ds ps hval0 hA0
    have hval : ∀ (j : Nat) t v, Try.f8.params[j]? = some t → args[j]? = some v → Value.okWide Try.prog W .any base t v := hval0
    have hA : DataW.TrodAll enc Try.prog W 0 (fun _ => true) true Try.f8.params.toList args.toList ds ps := hA0
    rw [Try.params8] at hA hval
    obtain ⟨v0, v1, v2, d0, d1, d2, p0, p1, p2, rfl, rfl, rfl, h0, h1, h2⟩ := trodAll_three hA
    obtain ⟨l0, rfl, g0⟩ := agg_arg (n := 20) (ds := List.replicate 4 (.int .i64)) Try.underlying46 rfl (by kernel_rfl) (hval 0 _ _ rfl rfl) h0
    obtain ⟨xs0, e0, rfl, w0⟩ := int_list g0
    match xs0, e0 with
    | [k_a, k_b, k_c, k_d], _ =>
    obtain ⟨n_p, p, d_p, hd_p, hl_p, hm_p, hk_p⟩ := slice_law (n := 20) (es := 1) Try.underlying23 (by kernel_rfl) (by kernel_rfl) (by omega) (hval 1 _ _ rfl rfl) h1
    obtain ⟨n_l, l, d_l, hd_l, hl_l, hm_l, hk_l, hwf_l⟩ := slice_lawR (n := 20) (es := 3) Try.underlying47 (by kernel_rfl) (by kernel_rfl) (by omega) (hval 2 _ _ rfl rfl) h2
    exact law_deep (ds := [.v (.agg ⟨[.int .i64 k_a, .int .i64 k_b, .int .i64 k_c, .int .i64 k_d]⟩), d_p, d_l]) (env_ok (N := Try.f8.ntmps) (l := [e_sServedAt, e_toKit, e_toIntS, e_toDishS, e_ServedAt, e_eqIntS, e_eqDishS, e_szDishS]) (live := []) (ord := [])) Try.func8 ⟨⟨rfl, rfl⟩, hk_p, hk_l, trivial⟩ (FnExactServedAt_body k_a k_b k_c k_d n_p p d_p n_l l d_l hd_p hl_p hm_p hd_l hl_l hm_l (fun i hi => (wf_range (hwf_l _ (getD_mem hi))).2))
theorem FnExactServedAt_holds : Rows.FnExactServedAtSaid :=
  OpenClaim.holds_of_wide 8 Try.f8 rfl rfl rfl rfl rfl rfl rfl ⟨rfl, rfl, rfl, rfl, rfl⟩ rfl rfl rfl rfl rfl (by kernel_rfl) Try.func8 (by kernel_rfl)
    (of_decide_eq_true (by kernel_rfl)) (by unfold Func.isWrapper; first | (rw [if_pos (by decide +kernel)]; kernel_rfl) | (rw [if_neg (by decide +kernel)]; exact ⟨rfl, rfl⟩))
    (fun os started H enc _ => FnExactServedAt_handed os started H enc)

end Go.Proofs.Ythcgbbhgjeceeaa
