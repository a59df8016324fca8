/- FnExactIsValidLog: the program's IsValidLog returns what the reference's returns, for all arguments; the library's tables of numbers lie as their text lays them. -/
import Derived.Test.YtbhlncohfpempaaDoorLogG
import Derived.Test.YtbhlncohfpempaaDoorDoor
import Derived.Test.YtbhlncohfpempaaDoorRows
set_option linter.unusedSimpArgs false
set_option linter.unusedVariables false
set_option maxRecDepth 100000
set_option maxHeartbeats 4000000
namespace Go.Proofs.YtbhlncohfpempaaDoor
open Go Go.Eng
open Go.ChangeShapes Go.WideShapes Go.ChangeAt Go.RowKit
theorem FnExactIsValidLog_body (l_d : ByteArray) (l_p : ByteArray) (l_n : Int) (hm_l_d : l_d.size ≤ maxLen) (hm_l_p : l_p.size ≤ maxLen) : abody (env Tryd.f6.ntmps [e_szLog, e_toLog, e_sIsValidLog, e_IsValidLog] [] []) Tryd.f6 (inV [.v (.agg ⟨[.string l_d, .string l_p, .int .i64 l_n]⟩)] 0) (inH [.v (.agg ⟨[.string l_d, .string l_p, .int .i64 l_n]⟩)] 0) (inN [.v (.agg ⟨[.string l_d, .string l_p, .int .i64 l_n]⟩)] 0) fun r _ _ lo => r = .bool true ∧ Nat.ble (inN [.v (.agg ⟨[.string l_d, .string l_p, .int .i64 l_n]⟩)] 0) lo = true := by
  have hm1 : l_d.size ≤ 9223372036854775807 := by exact hm_l_d
  have hm2 : l_p.size ≤ 9223372036854775807 := by exact hm_l_p
  all_goals (((first | refine abody_nb (nb' := 0) rfl ?_ | refine abody_nb (nb' := 1) rfl ?_ | refine abody_nb (nb' := 2) rfl ?_ | refine abody_nb (nb' := 3) rfl ?_); (conv => whnf)); repeat' (first | (with_reducible refine Step.mk ?_) | ((with_reducible refine a_cons ?_); conv => whnf) | (with_reducible refine k_reg ?_) | (with_reducible refine a_nil ?_) | (with_reducible refine k_seq ?_) | (with_reducible refine w_seq ?_) | (with_reducible refine w_reg ?_) | ((with_reducible refine c_cons ?_); conv => whnf) | (with_reducible refine c_nil ?_) | ((with_reducible refine w_cond ?_); conv => whnf) | (with_reducible refine w_block ?_) | (with_reducible refine k_blk ?_) | (with_reducible refine w_exit ?_) | (with_reducible refine w_ret ?_) | (with_reducible refine w_skip ?_) | (with_reducible refine k_seqe ?_) | (with_reducible refine k_seqr ?_) | (with_reducible refine k_blkr ?_) | (with_reducible refine k_rnde ?_) | (with_reducible refine k_rndr ?_) | (with_reducible refine k_ale ?_) | (with_reducible refine k_alr ?_) | ((with_reducible refine k_blke ?_); conv => whnf) | ((with_reducible refine k_rndn ?_); conv => whnf) | ((with_reducible refine k_aln ?_); conv => whnf) | ((with_reducible refine k_lam ?_); conv => whnf) | ((with_reducible refine w_loop ?_); conv => whnf) | (with_reducible refine w_aloop ?_) | ((with_reducible refine q_cons ?_); conv => whnf) | (with_reducible refine q_nil ?_) | ((with_reducible refine w_isd ?_); first | refine dg_drawn rfl ?_ | refine dg_quiet rfl ?_) | (with_reducible refine body_in (by kernel_rfl) (fun K' hK => ?_)) | (with_reducible refine kout (by assumption) ?_) | ((first | refine WholeK.whole ⟨by first | rfl | omega | (simp; done), by (first | rfl | omega | (simp; done) | (simp; omega) | (simp [*]; done) | (simp [*]; omega))⟩ ?_ | refine WholeK.part ?_ | refine FitK.mk (by first | omega | (simp only [size_one, size_nil]; omega) | (with_reducible assumption) | (simp only [size_app, size_one, size_nil, size_mk, size_ext, size_lit, List.length_append, List.length_cons, List.length_nil]; omega)) ?_ | refine chk_intro (by (first | (simp [isOne]; done) | ((try simp only [Bool.and_eq_true, decide_eq_true_eq, Nat.blt_eq, Nat.ble_eq, Nat.beq_eq_true_eq]); simp [isOne]; omega) | (simp [-List.getD_eq_getElem?_getD, isOne, *]; done) | (simp [-List.getD_eq_getElem?_getD, isOne, *]; omega))) ?_ | refine bcase_t (by with_reducible assumption) ?_ | refine bcase_f (by with_reducible assumption) ?_ | refine bcase_dt (by with_reducible assumption) ?_ | refine bcase_df (by with_reducible assumption) ?_ | refine bcase_t (by assumption) ?_ | refine bcase_f (by assumption) ?_ | refine bcase_dt (by assumption) ?_ | refine bcase_df (by assumption) ?_ | refine optK_if (by (first | (with_reducible assumption) | (simp [isOne]; done) | ((try simp only [Bool.and_eq_true, decide_eq_true_eq, Nat.blt_eq, Nat.ble_eq, Nat.beq_eq_true_eq]); simp [isOne]; omega) | (simp [-List.getD_eq_getElem?_getD, isOne, *]; done) | (simp [-List.getD_eq_getElem?_getD, isOne, *]; omega) | omega | assumption)) ?_ | refine callBP (by with_reducible assumption) ?_ | refine callD rfl ?_ | refine callBP (by (first | (with_reducible assumption) | (simp [isOne]; done) | ((try simp only [Bool.and_eq_true, decide_eq_true_eq, Nat.blt_eq, Nat.ble_eq, Nat.beq_eq_true_eq]); simp [isOne]; omega) | (simp [-List.getD_eq_getElem?_getD, isOne, *]; done) | (simp [-List.getD_eq_getElem?_getD, isOne, *]; omega) | omega | assumption)) ?_ | refine callBN (by (first | (simp [isOne]; done) | ((try simp only [Bool.and_eq_true, decide_eq_true_eq, Nat.blt_eq, Nat.ble_eq, Nat.beq_eq_true_eq]); simp [isOne]; omega) | (simp [-List.getD_eq_getElem?_getD, isOne, *]; done) | (simp [-List.getD_eq_getElem?_getD, isOne, *]; omega))) ?_ | refine callM rfl ?_ | refine callS ?_ | refine callB (fun h => ?_) (fun h => ?_) | refine notsplit ?_ | refine bcase_dt (by omega) ?_ | refine bcase_df (by omega) ?_ | refine dsplit (fun h => ?_) (fun h => ?_) | refine esplit (fun h => ?_) (fun h => ?_) | refine nsplit (fun h => ?_) (fun h => ?_) | refine bsplit (fun h => ?_) (fun h => ?_)) <;> conv => whnf)))
  all_goals (first | exact ⟨rfl, rfl⟩ | (exfalso; (try clear hK); first | contradiction | omega | (simp_all; done) | (simp_all; omega)))
theorem FnExactIsValidLog_door (os : Os) (args : Array Value) : laidMetH Tryd.prog Rows.fnExactIsValidLogRow.laid ((World.doorLaid Tryd.prog 400 os).forCall (fun _ _ => 0) ⟨#[], args, []⟩).memory :=
  laidMetH_of_parts3 (fuel := 8) (laidMet_of_run' 8 (by kernel_rfl) (by kernel_rfl)) (by kernel_rfl) (by kernel_rfl)
theorem FnExactIsValidLog_handed (os : Os) (started : os.Started) (H : Type) (enc : TypeId × Value → H) :
    ReturnsInHanded {} Tryd.checked os 6 .any (fun w args => (Rows.fnExactIsValidLogSpec.pre enc Tryd.prog Tryd.f6 [] false w args ∧ laidMetH Tryd.prog Rows.fnExactIsValidLogRow.laid w) ∧ sizedMet enc Tryd.prog Tryd.f6 (OpenSpec.ofChange Rows.fnExactIsValidLogSpec) false w args) (Rows.fnExactIsValidLogSpec.post enc Tryd.prog Tryd.f6 false true false false) := by
  refine law_handed_laid (C := Tryd.checked) Tryd.own started (by kernel_rfl) Tryd.func6 rfl rfl Tryd.underlying4 (fun ds h => ?_) Tryd.laidOut (by kernel_rfl)
    (ChangeSpec.witness_shaped (enc := enc) (C := Tryd.checked) (os := os) (X := fun w _ => laidMetH Tryd.prog Rows.fnExactIsValidLogRow.laid w) false (World.doorLaid Tryd.prog 400 os) #[.agg #[.string .empty, .string .empty, .int .i64 0]] 20 rfl (World.shaped_of_RefB (by kernel_rfl) (by kernel_rfl)) (by kernel_rfl) (by kernel_rfl) (by kernel_rfl) (FnExactIsValidLog_door os _)) ?_
  · match ds, h with
    | [d0], _ => rfl
  · intro W base args ds ps hL hval0 hA0
    have hval : ∀ (j : Nat) t v, Tryd.f6.params[j]? = some t → args[j]? = some v → Value.okWide Tryd.prog W .any base t v := hval0
    have hA : DataW.TrodAll enc Tryd.prog W 0 (fun _ => true) true Tryd.f6.params.toList args.toList ds ps := hA0
    rw [Tryd.params6] at hA hval
    obtain ⟨v0, d0, rfl, rfl, h0⟩ := trodAll_one hA
    obtain ⟨l0, rfl, g0⟩ := agg_arg (n := 20) (ds := [.string, .string, .int .i64]) Tryd.underlying46 rfl (by kernel_rfl) (hval 0 _ _ rfl rfl) h0
    obtain ⟨l_d, l0, rfl, w_l_d, g0⟩ := leaf_string g0
    obtain ⟨l_p, l0, rfl, w_l_p, g0⟩ := leaf_string g0
    obtain ⟨l_n, l0, rfl, w_l_n, g0⟩ := leaf_int g0
    obtain rfl := leaf_nil g0
    exact law_deep (ds := [.v (.agg ⟨[.string l_d, .string l_p, .int .i64 l_n]⟩)]) (env_ok (N := Tryd.f6.ntmps) (l := [e_szLog, e_toLog, e_sIsValidLog, e_IsValidLog]) (live := []) (ord := [])) Tryd.func6 (Floor.start (glok_laid (by kernel_rfl) hL)) ⟨⟨rfl, rfl⟩, trivial⟩ (FnExactIsValidLog_body l_d l_p l_n w_l_d w_l_p)
theorem FnExactIsValidLog_row : Rows.FnExactIsValidLogSaid :=
  OpenClaim.holds_of_wide 6 Tryd.f6 rfl rfl rfl rfl rfl rfl rfl ⟨rfl, rfl, rfl, rfl, rfl⟩ rfl rfl rfl rfl rfl (by kernel_rfl) Tryd.func6 (by kernel_rfl)
    (of_decide_eq_true (by kernel_rfl)) (by unfold Func.isWrapper; first | (rw [if_pos (by decide +kernel)]; kernel_rfl) | (rw [if_neg (by decide +kernel)]; exact ⟨rfl, rfl⟩))
    (fun os started H enc _ => FnExactIsValidLog_handed os started H enc)
theorem FnExactIsValidLog_holds : Rows.FnExactIsValidLogCardSaid :=
  Claim7.holds_tied_plain_at .later [] [.data, .data, .data] true Rows.fnExactIsValidLogCard.stood.harness false
    FnExactIsValidLog_row (fun _ h => by cases h) (by kernel_rfl) (fun _ h => by cases h) fnExactIsValidLog_row_tie rfl ⟨rfl, rfl⟩ (by kernel_rfl) rfl
    (fun f fn hf hfn => by
      obtain rfl : f = 6 := Option.some.inj ((show Tryd.prog.funcNamed Rows.fnExactIsValidLogRow.func = some 6 by kernel_rfl).symm.trans hf) |>.symm
      obtain rfl : fn = Tryd.f6 := (Option.some.inj (Tryd.func6.symm.trans hfn)).symm
      exact ⟨by kernel_rfl, fun j t ht => by
        rw [Tryd.params6] at ht
        have hm : t ∈ [46] := by simpa using Array.mem_of_getElem? ht
        have hall : ([46].all fun u => !Tryd.prog.wantsStandIn u) = true := by kernel_rfl
        exact (show Tryd.prog.wantsStandIn t = false by simpa using List.all_eq_true.1 hall t hm)⟩)
    (by kernel_rfl)

end Go.Proofs.YtbhlncohfpempaaDoor
