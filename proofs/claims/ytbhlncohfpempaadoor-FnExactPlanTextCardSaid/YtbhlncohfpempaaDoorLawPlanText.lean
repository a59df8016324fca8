/- FnExactPlanText: the program's PlanText returns what the reference's returns, for all arguments; the library's tables of numbers lie as their text lays them. -/
import Derived.Test.YtbhlncohfpempaaDoorPlanW
import Derived.Test.YtbhlncohfpempaaDoorDoor
import Derived.Test.YtbhlncohfpempaaDoorRows
set_option linter.unusedSimpArgs false
set_option linter.unusedVariables false
set_option maxRecDepth 100000
set_option maxHeartbeats 4000000
namespace Go.Proofs.YtbhlncohfpempaaDoor
open Go Go.Eng
open Go.ChangeShapes Go.WideShapes Go.ChangeAt Go.RowKit
theorem FnExactPlanText_body (k_a : Int) (k_b : Int) (k_c : Int) (k_d : Int) (n_l : Nat) (l : List Int) (d_l : DV) (hd_l : (d_l = .nil ∧ l = [] ∧ n_l = 0) ∨ d_l = .sl 1 n_l (.ints .i64 l)) (hl_l : l.length = n_l * 1) (hm_l : (n_l : Int) ≤ 9223372036854775807) : abody (env Tryd.f4.ntmps [e_sPlanText, e_toKit, e_toIntS, e_PlanText, e_eqIntS] [] []) Tryd.f4 (inV [.v (.agg ⟨[.int .i64 k_a, .int .i64 k_b, .int .i64 k_c, .int .i64 k_d]⟩), d_l] 0) (inH [.v (.agg ⟨[.int .i64 k_a, .int .i64 k_b, .int .i64 k_c, .int .i64 k_d]⟩), d_l] 0) (inN [.v (.agg ⟨[.int .i64 k_a, .int .i64 k_b, .int .i64 k_c, .int .i64 k_d]⟩), d_l] 0) fun r _ _ lo => r = .bool true ∧ Nat.ble (inN [.v (.agg ⟨[.int .i64 k_a, .int .i64 k_b, .int .i64 k_c, .int .i64 k_d]⟩), d_l] 0) lo = true := by
  have hbb : ∀ x : ByteArray, (x.toList == x.toList) = true := fun x => by simp
  cases h1 : (kitQ (⟨k_a, k_b, k_c, k_d⟩ : Q4) && planB (⟨k_a, k_b, k_c, k_d⟩ : Q4) l)
  all_goals rcases hd_l with ⟨rfl, rfl, rfl⟩ | rfl
  all_goals (((first | refine abody_nb (nb' := 0) rfl ?_ | refine abody_nb (nb' := 1) rfl ?_ | refine abody_nb (nb' := 2) rfl ?_ | refine abody_nb (nb' := 3) rfl ?_); (conv => whnf)); repeat' (first | (with_reducible refine Step.mk ?_) | ((with_reducible refine a_cons ?_); conv => whnf) | (with_reducible refine k_reg ?_) | (with_reducible refine a_nil ?_) | (with_reducible refine k_seq ?_) | (with_reducible refine w_seq ?_) | (with_reducible refine w_reg ?_) | ((with_reducible refine c_cons ?_); conv => whnf) | (with_reducible refine c_nil ?_) | ((with_reducible refine w_cond ?_); conv => whnf) | (with_reducible refine w_block ?_) | (with_reducible refine k_blk ?_) | (with_reducible refine w_exit ?_) | (with_reducible refine w_ret ?_) | (with_reducible refine w_skip ?_) | (with_reducible refine k_seqe ?_) | (with_reducible refine k_seqr ?_) | (with_reducible refine k_blkr ?_) | (with_reducible refine k_rnde ?_) | (with_reducible refine k_rndr ?_) | (with_reducible refine k_ale ?_) | (with_reducible refine k_alr ?_) | ((with_reducible refine k_blke ?_); conv => whnf) | ((with_reducible refine k_rndn ?_); conv => whnf) | ((with_reducible refine k_aln ?_); conv => whnf) | ((with_reducible refine k_lam ?_); conv => whnf) | ((with_reducible refine w_loop ?_); conv => whnf) | (with_reducible refine w_aloop ?_) | ((with_reducible refine q_cons ?_); conv => whnf) | (with_reducible refine q_nil ?_) | ((with_reducible refine w_isd ?_); first | refine dg_drawn rfl ?_ | refine dg_quiet rfl ?_) | (with_reducible refine body_in (by kernel_rfl) (fun K' hK => ?_)) | (with_reducible refine kout (by assumption) ?_) | ((first | refine WholeK.whole ⟨by first | rfl | omega | (simp; done), by (first | rfl | omega | (simp; done) | (simp; omega) | (simp [*]; done) | (simp [*]; omega))⟩ ?_ | refine WholeK.part ?_ | refine FitK.mk (by first | omega | (simp only [size_one, size_nil]; omega) | (with_reducible assumption) | (simp only [size_app, size_one, size_nil, size_mk, size_ext, size_lit, List.length_append, List.length_cons, List.length_nil]; omega) | (simp only [hsz, size_app, size_one, size_nil, size_mk, size_ext, size_lit, List.length_append, List.length_cons, List.length_nil]; omega)) ?_ | refine chk_intro (by (first | (simp [isOne]; done) | ((try simp only [Bool.and_eq_true, decide_eq_true_eq, Nat.blt_eq, Nat.ble_eq, Nat.beq_eq_true_eq]); simp [isOne]; omega) | (simp [-List.getD_eq_getElem?_getD, isOne, *]; done) | (simp [-List.getD_eq_getElem?_getD, isOne, *]; omega))) ?_ | refine bcase_t (by with_reducible assumption) ?_ | refine bcase_f (by with_reducible assumption) ?_ | refine bcase_dt (by with_reducible assumption) ?_ | refine bcase_df (by with_reducible assumption) ?_ | refine bcase_t (by assumption) ?_ | refine bcase_f (by assumption) ?_ | refine bcase_dt (by assumption) ?_ | refine bcase_df (by assumption) ?_ | refine optK_if (by (first | (with_reducible assumption) | (simp [isOne]; done) | ((try simp only [Bool.and_eq_true, decide_eq_true_eq, Nat.blt_eq, Nat.ble_eq, Nat.beq_eq_true_eq]); simp [isOne]; omega) | (simp [-List.getD_eq_getElem?_getD, isOne, *]; done) | (simp [-List.getD_eq_getElem?_getD, isOne, *]; omega) | omega | assumption)) ?_ | refine callBP (by with_reducible assumption) ?_ | refine callD rfl ?_ | refine callBP (by (first | (with_reducible assumption) | (simp [isOne]; done) | ((try simp only [Bool.and_eq_true, decide_eq_true_eq, Nat.blt_eq, Nat.ble_eq, Nat.beq_eq_true_eq]); simp [isOne]; omega) | (simp [-List.getD_eq_getElem?_getD, isOne, *]; done) | (simp [-List.getD_eq_getElem?_getD, isOne, *]; omega) | omega | assumption)) ?_ | refine callBN (by (first | (simp [isOne]; done) | ((try simp only [Bool.and_eq_true, decide_eq_true_eq, Nat.blt_eq, Nat.ble_eq, Nat.beq_eq_true_eq]); simp [isOne]; omega) | (simp [-List.getD_eq_getElem?_getD, isOne, *]; done) | (simp [-List.getD_eq_getElem?_getD, isOne, *]; omega))) ?_ | refine callM rfl ?_ | refine callS ?_ | refine callB (fun h => ?_) (fun h => ?_) | refine notsplit ?_ | refine bcase_dt (by omega) ?_ | refine bcase_df (by omega) ?_ | refine dsplit (fun h => ?_) (fun h => ?_) | refine esplit (fun h => ?_) (fun h => ?_) | refine nsplit (fun h => ?_) (fun h => ?_) | refine bsplit (fun h => ?_) (fun h => ?_)) <;> conv => whnf)))
  all_goals (first | exact ⟨rfl, rfl⟩ | (exfalso; (try clear hK); first | contradiction | omega | (simp_all; done) | (simp_all; omega)))
theorem FnExactPlanText_door (os : Os) (args : Array Value) : laidMetH Tryd.prog Rows.fnExactPlanTextRow.laid ((World.doorLaid Tryd.prog 400 os).forCall (fun _ _ => 0) ⟨#[], args, []⟩).memory :=
  laidMetH_of_parts3 (fuel := 8) (laidMet_of_run' 8 (by kernel_rfl) (by kernel_rfl)) (by kernel_rfl) (by kernel_rfl)
theorem FnExactPlanText_handed (os : Os) (started : os.Started) (H : Type) (enc : TypeId × Value → H) :
    ReturnsInHanded {} Tryd.checked os 4 .any (fun w args => (Rows.fnExactPlanTextSpec.pre enc Tryd.prog Tryd.f4 [] false w args ∧ laidMetH Tryd.prog Rows.fnExactPlanTextRow.laid w) ∧ sizedMet enc Tryd.prog Tryd.f4 (OpenSpec.ofChange Rows.fnExactPlanTextSpec) false w args) (Rows.fnExactPlanTextSpec.post enc Tryd.prog Tryd.f4 false true false false) := by
  refine law_handed_laid (C := Tryd.checked) Tryd.own started (by kernel_rfl) Tryd.func4 rfl rfl Tryd.underlying4 (fun ds h => ?_) Tryd.laidOut (by kernel_rfl)
    (ChangeSpec.witness_shaped (enc := enc) (C := Tryd.checked) (os := os) (X := fun w _ => laidMetH Tryd.prog Rows.fnExactPlanTextRow.laid w) false (World.doorLaid Tryd.prog 400 os) #[.agg #[.int .i64 0, .int .i64 0, .int .i64 0, .int .i64 0], .slice none 0 0] 20 rfl (World.shaped_of_RefB (by kernel_rfl) (by kernel_rfl)) (by kernel_rfl) (by kernel_rfl) (by kernel_rfl) (FnExactPlanText_door os _)) ?_
  · match ds, h with
    | [d0, d1], _ => rfl
  · intro W base args ds ps hL hval0 hA0
    have hval : ∀ (j : Nat) t v, Tryd.f4.params[j]? = some t → args[j]? = some v → Value.okWide Tryd.prog W .any base t v := hval0
    have hA : DataW.TrodAll enc Tryd.prog W 0 (fun _ => true) true Tryd.f4.params.toList args.toList ds ps := hA0
    rw [Tryd.params4] at hA hval
    obtain ⟨v0, v1, d0, d1, p0, p1, rfl, rfl, rfl, h0, h1⟩ := trodAll_two hA
    obtain ⟨l0, rfl, g0⟩ := agg_arg (n := 20) (ds := List.replicate 4 (.int .i64)) Tryd.underlying32 rfl (by kernel_rfl) (hval 0 _ _ rfl rfl) h0
    obtain ⟨xs0, e0, rfl, w0⟩ := int_list g0
    match xs0, e0 with
    | [k_a, k_b, k_c, k_d], _ =>
    obtain ⟨n_l, l, d_l, hd_l, hl_l, hm_l, hk_l⟩ := slice_law (n := 20) (es := 1) Tryd.underlying33 (by kernel_rfl) (by kernel_rfl) (by omega) (hval 1 _ _ rfl rfl) h1
    exact law_deep (ds := [.v (.agg ⟨[.int .i64 k_a, .int .i64 k_b, .int .i64 k_c, .int .i64 k_d]⟩), d_l]) (env_ok (N := Tryd.f4.ntmps) (l := [e_sPlanText, e_toKit, e_toIntS, e_PlanText, e_eqIntS]) (live := []) (ord := [])) Tryd.func4 (Floor.start (glok_laid (by kernel_rfl) hL)) ⟨⟨rfl, rfl⟩, hk_l, trivial⟩ (FnExactPlanText_body k_a k_b k_c k_d n_l l d_l hd_l hl_l hm_l)
theorem FnExactPlanText_row : Rows.FnExactPlanTextSaid :=
  OpenClaim.holds_of_wide 4 Tryd.f4 rfl rfl rfl rfl rfl rfl rfl ⟨rfl, rfl, rfl, rfl, rfl⟩ rfl rfl rfl rfl rfl (by kernel_rfl) Tryd.func4 (by kernel_rfl)
    (of_decide_eq_true (by kernel_rfl)) (by unfold Func.isWrapper; first | (rw [if_pos (by decide +kernel)]; kernel_rfl) | (rw [if_neg (by decide +kernel)]; exact ⟨rfl, rfl⟩))
    (fun os started H enc _ => FnExactPlanText_handed os started H enc)
theorem FnExactPlanText_holds : Rows.FnExactPlanTextCardSaid :=
  Claim7.holds_tied_plain_at .later [] [.data, .data, .data] true Rows.fnExactPlanTextCard.stood.harness false
    FnExactPlanText_row (fun _ h => by cases h) (by kernel_rfl) (fun _ h => by cases h) fnExactPlanText_row_tie rfl ⟨rfl, rfl⟩ (by kernel_rfl) rfl
    (fun f fn hf hfn => by
      obtain rfl : f = 4 := Option.some.inj ((show Tryd.prog.funcNamed Rows.fnExactPlanTextRow.func = some 4 by kernel_rfl).symm.trans hf) |>.symm
      obtain rfl : fn = Tryd.f4 := (Option.some.inj (Tryd.func4.symm.trans hfn)).symm
      exact ⟨by kernel_rfl, fun j t ht => by
        rw [Tryd.params4] at ht
        have hm : t ∈ [32, 33] := by simpa using Array.mem_of_getElem? ht
        have hall : ([32, 33].all fun u => !Tryd.prog.wantsStandIn u) = true := by kernel_rfl
        exact (show Tryd.prog.wantsStandIn t = false by simpa using List.all_eq_true.1 hall t hm)⟩)
    (by kernel_rfl)

end Go.Proofs.YtbhlncohfpempaaDoor
