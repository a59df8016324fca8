/- FnExactJoinPlans: the program's JoinPlans returns what the reference's returns, for all arguments; no condition. -/
import Derived.Test.YtnnfbgonjonflaaJoinA
import Derived.Test.YtnnfbgonjonflaaJoinB
import Derived.Test.YtnnfbgonjonflaaJoinC
import Derived.Test.YtnnfbgonjonflaaRows
set_option linter.unusedSimpArgs false
set_option linter.unusedVariables false
set_option maxRecDepth 100000
set_option maxHeartbeats 4000000
namespace Go.Proofs.Ytnnfbgonjonflaa
open Go Go.Eng
open Go.ChangeShapes Go.WideShapes Go.ChangeAt Go.RowKit
theorem FnExactJoinPlans_body (k_a : Int) (k_b : Int) (k_c : Int) (k_d : Int) (n_a : Nat) (a : List Int) (d_a : DV) (n_b : Nat) (b : List Int) (d_b : DV) (hd_a : (d_a = .nil ∧ a = [] ∧ n_a = 0) ∨ d_a = .sl 1 n_a (.ints .i64 a)) (hl_a : a.length = n_a * 1) (hm_a : (n_a : Int) ≤ 9223372036854775807) (hd_b : (d_b = .nil ∧ b = [] ∧ n_b = 0) ∨ d_b = .sl 1 n_b (.ints .i64 b)) (hl_b : b.length = n_b * 1) (hm_b : (n_b : Int) ≤ 9223372036854775807) : abody (env Try.f4.ntmps [e_sJoinPlans, e_toKit, e_toIntS, e_JoinPlans, e_eqIntS, e_markIntS, e_heldIntS] [] []) Try.f4 (inV [.v (.agg ⟨[.int .i64 k_a, .int .i64 k_b, .int .i64 k_c, .int .i64 k_d]⟩), d_a, d_b] 0) (inH [.v (.agg ⟨[.int .i64 k_a, .int .i64 k_b, .int .i64 k_c, .int .i64 k_d]⟩), d_a, d_b] 0) (inN [.v (.agg ⟨[.int .i64 k_a, .int .i64 k_b, .int .i64 k_c, .int .i64 k_d]⟩), d_a, d_b] 0) fun r _ _ lo => r = .bool true ∧ Nat.ble (inN [.v (.agg ⟨[.int .i64 k_a, .int .i64 k_b, .int .i64 k_c, .int .i64 k_d]⟩), d_a, d_b] 0) lo = true := by
  rcases join_ways (⟨k_a, k_b, k_c, k_d⟩ : Q4) a b n_a n_b with ⟨q1, q2⟩ | ⟨q1, q2, q3⟩ | ⟨q1, q2, q3⟩
  · exact FnExactJoinPlans_w1 _ _ _ _ _ _ _ _ _ _ hd_a hl_a hm_a hd_b hl_b hm_b q1 q2
  · exact FnExactJoinPlans_w2 _ _ _ _ _ _ _ _ _ _ hd_a hl_a hm_a hd_b hl_b hm_b q1 q2 q3 (by
      rw [joinL_eq, List.length_append]
      simp only [Bool.and_eq_true, decide_eq_true_eq] at q2
      omega)
  · exact FnExactJoinPlans_w3 _ _ _ _ _ _ _ _ _ _ hd_a hl_a hm_a hd_b hl_b hm_b q1 q2 q3
theorem FnExactJoinPlans_handed (os : Os) (started : os.Started) (H : Type) (enc : TypeId × Value → H) :
    ReturnsInHanded {} Try.checked os 4 .any (Rows.fnExactJoinPlansSpec.pre6 enc Try.prog Try.f4 Rows.fnExactJoinPlansRow.domain false) (Rows.fnExactJoinPlansSpec.post enc Try.prog Try.f4 false true false false) := by
  refine law_handed (C := Try.checked) Try.own started (by kernel_rfl) Try.func4 rfl rfl Try.underlying4 (fun ds h => ?_) Try.laidOut (by kernel_rfl)
    (ChangeSpec.witness6 (enc := enc) (C := Try.checked) false ⟨#[], #[.agg #[.int .i64 0, .int .i64 0, .int .i64 0, .int .i64 0], .slice none 0 0, .slice none 0 0], []⟩ 20 (by kernel_rfl) (by kernel_rfl) (by kernel_rfl) (by kernel_rfl)) ?_
  · match ds, h with
    | [d0, d1, d2], _ => rfl
  · intro W base args ds ps hval0 hA0
    have hval : ∀ (j : Nat) t v, Try.f4.params[j]? = some t → args[j]? = some v → Value.okWide Try.prog W .any base t v := hval0
    have hA : DataW.TrodAll enc Try.prog W 0 (fun _ => true) true Try.f4.params.toList args.toList ds ps := hA0
    rw [Try.params4] at hA hval
    obtain ⟨v0, v1, v2, d0, d1, d2, p0, p1, p2, rfl, rfl, rfl, h0, h1, h2⟩ := trodAll_three hA
    obtain ⟨l0, rfl, g0⟩ := agg_arg (n := 20) (ds := List.replicate 4 (.int .i64)) Try.underlying24 rfl (by kernel_rfl) (hval 0 _ _ rfl rfl) h0
    obtain ⟨xs0, e0, rfl, w0⟩ := int_list g0
    match xs0, e0 with
    | [k_a, k_b, k_c, k_d], _ =>
    obtain ⟨n_a, a, d_a, hd_a, hl_a, hm_a, hk_a⟩ := slice_law (n := 20) (es := 1) Try.underlying25 (by kernel_rfl) (by kernel_rfl) (by omega) (hval 1 _ _ rfl rfl) h1
    obtain ⟨n_b, b, d_b, hd_b, hl_b, hm_b, hk_b⟩ := slice_law (n := 20) (es := 1) Try.underlying25 (by kernel_rfl) (by kernel_rfl) (by omega) (hval 2 _ _ rfl rfl) h2
    exact law_deep (ds := [.v (.agg ⟨[.int .i64 k_a, .int .i64 k_b, .int .i64 k_c, .int .i64 k_d]⟩), d_a, d_b]) (env_ok (N := Try.f4.ntmps) (l := [e_sJoinPlans, e_toKit, e_toIntS, e_JoinPlans, e_eqIntS, e_markIntS, e_heldIntS]) (live := []) (ord := [])) Try.func4 (Floor.start fun _ _ => glok) ⟨⟨rfl, rfl⟩, hk_a, hk_b, trivial⟩ (FnExactJoinPlans_body k_a k_b k_c k_d n_a a d_a n_b b d_b hd_a hl_a hm_a hd_b hl_b hm_b)
theorem band {a b : Bool} (h : (a && b) = true) : a = true ∧ b = true := by cases a <;> cases b <;> simp_all
theorem bmk {a b : Bool} (h : a = true) (h' : b = true) : (a && b) = true := by rw [h, h']; rfl
theorem FnExactJoinPlans_jg0 : (Rows.fnExactJoinPlansRow.wf (OpenSpec.ofChange Rows.fnExactJoinPlansSpec) && laidOutB Try.pinned.checked.prog && mapsRowed Try.pinned.checked.prog && Try.f4.params.all (Try.pinned.checked.prog.readableRec ·) && namedTie Try.pinned.checked.prog Rows.fnExactJoinPlansRow.named Rows.fnExactJoinPlansSpec.vars && (Rows.fnExactJoinPlansRow.stops == []) && (Try.pinned.checked.prog.stops == []) && (Rows.fnExactJoinPlansRow.knobs == []) && (Try.pinned.checked.prog.stopKnobs == []) && (Rows.fnExactJoinPlansRow.inPlace == Try.pinned.checked.prog.inPlace 4)) = true := by kernel_rfl
theorem FnExactJoinPlans_jg1 : ((Rows.fnExactJoinPlansRow.unfollowed == Try.pinned.checked.prog.unfollowed 4) && (Rows.fnExactJoinPlansRow.recurses == Try.pinned.checked.prog.recurses 4)) = true := by kernel_rfl
theorem FnExactJoinPlans_jg2 : ((Rows.fnExactJoinPlansRow.named == Try.pinned.checked.prog.varsNamed 4) && (Rows.fnExactJoinPlansRow.maps == (Try.f4.params.toList ++ Rows.fnExactJoinPlansSpec.plain.varTypes Try.pinned.checked.prog).any (Try.pinned.checked.prog.mapsRec ·)) && (Rows.fnExactJoinPlansRow.ifaces == (Try.f4.params.toList ++ Rows.fnExactJoinPlansSpec.plain.varTypes Try.pinned.checked.prog).any (Try.pinned.checked.prog.ifacesRec ·)) && (Rows.fnExactJoinPlansRow.mapsOut == Try.pinned.checked.prog.mapsAmong Try.f4.resultTypes.toList) && (Rows.fnExactJoinPlansRow.loops == (Try.f4.params.toList ++ Rows.fnExactJoinPlansSpec.plain.varTypes Try.pinned.checked.prog).any (Try.pinned.checked.prog.loopsFrom ·)) && (Rows.fnExactJoinPlansRow.wideKeys == (Try.f4.params.toList ++ Rows.fnExactJoinPlansSpec.plain.varTypes Try.pinned.checked.prog ++ Try.f4.resultTypes.toList).any (Try.pinned.checked.prog.wideKeysFrom ·)) && Rows.fnExactJoinPlansSpec.vars.all (Try.pinned.checked.prog.varReadable ·) && Try.f4.resultTypes.all (fun t => Try.pinned.checked.prog.readableRec t && decide (t < Try.pinned.checked.prog.types.size)) && (Rows.fnExactJoinPlansRow.ifacesOut == Try.f4.resultTypes.toList.any (Try.pinned.checked.prog.ifacesRec ·)) && (Rows.fnExactJoinPlansRow.loopsOut == Try.f4.resultTypes.toList.any (Try.pinned.checked.prog.loopsFrom ·))) = true := by kernel_rfl
theorem FnExactJoinPlans_jg3 : ((Rows.fnExactJoinPlansRow.plainKeys == Try.pinned.checked.prog.plainKeys) && Rows.fnExactJoinPlansRow.shortTexts.isNone && Try.pinned.checked.prog.stopsHeard && Try.pinned.checked.prog.mayEnter && (Rows.fnExactJoinPlansRow.lifted == Try.pinned.checked.prog.liftsFinal) && (Try.pinned.checked.prog.make == some Rows.fnExactJoinPlansRow.make) && (Rows.fnExactJoinPlansRow.kinds == (if Rows.fnExactJoinPlansRow.domain.isEmpty then [] else Try.f4.params.toList.map fun t => match Try.pinned.checked.prog.underlying t with | some (.int k) => some k | _ => none)) && (Rows.fnExactJoinPlansRow.pinned == Rows.fnExactJoinPlansRow.pinnedBy) && (Rows.fnExactJoinPlansRow.veiled == (Try.f4.params.toList ++ Rows.fnExactJoinPlansSpec.plain.varTypes Try.pinned.checked.prog ++ Try.f4.resultTypes.toList).any (Try.pinned.checked.prog.veiledRec ·)) && Rows.fnExactJoinPlansRow.veiledFits Try.pinned.checked.prog Try.f4.params.toList (Try.f4.params.toList ++ Rows.fnExactJoinPlansSpec.plain.varTypes Try.pinned.checked.prog ++ Try.f4.resultTypes.toList)) = true := by kernel_rfl
theorem FnExactJoinPlans_facts : joinedFacts Try.pinned.checked.prog 4 Try.f4 Rows.fnExactJoinPlansSpec Rows.fnExactJoinPlansRow = true := by
  unfold joinedFacts
  exact (bmk (bmk (bmk (bmk (bmk (bmk (bmk (bmk (bmk (bmk (bmk (bmk (bmk (bmk (bmk (bmk (bmk (bmk (bmk (bmk (bmk (bmk FnExactJoinPlans_jg0 (band FnExactJoinPlans_jg1).1) (band FnExactJoinPlans_jg1).2) (band (band (band (band (band (band (band (band (band FnExactJoinPlans_jg2).1).1).1).1).1).1).1).1).1) (band (band (band (band (band (band (band (band (band FnExactJoinPlans_jg2).1).1).1).1).1).1).1).1).2) (band (band (band (band (band (band (band (band FnExactJoinPlans_jg2).1).1).1).1).1).1).1).2) (band (band (band (band (band (band (band FnExactJoinPlans_jg2).1).1).1).1).1).1).2) (band (band (band (band (band (band FnExactJoinPlans_jg2).1).1).1).1).1).2) (band (band (band (band (band FnExactJoinPlans_jg2).1).1).1).1).2) (band (band (band (band FnExactJoinPlans_jg2).1).1).1).2) (band (band (band FnExactJoinPlans_jg2).1).1).2) (band (band FnExactJoinPlans_jg2).1).2) (band FnExactJoinPlans_jg2).2) (band (band (band (band (band (band (band (band (band FnExactJoinPlans_jg3).1).1).1).1).1).1).1).1).1) (band (band (band (band (band (band (band (band (band FnExactJoinPlans_jg3).1).1).1).1).1).1).1).1).2) (band (band (band (band (band (band (band (band FnExactJoinPlans_jg3).1).1).1).1).1).1).1).2) (band (band (band (band (band (band (band FnExactJoinPlans_jg3).1).1).1).1).1).1).2) (band (band (band (band (band (band FnExactJoinPlans_jg3).1).1).1).1).1).2) (band (band (band (band (band FnExactJoinPlans_jg3).1).1).1).1).2) (band (band (band (band FnExactJoinPlans_jg3).1).1).1).2) (band (band (band FnExactJoinPlans_jg3).1).1).2) (band (band FnExactJoinPlans_jg3).1).2) (band FnExactJoinPlans_jg3).2)
theorem FnExactJoinPlans_holds : Rows.FnExactJoinPlansSaid :=
  OpenClaim.holds_of_wide 4 Try.f4 rfl rfl rfl rfl rfl rfl rfl ⟨rfl, rfl, rfl, rfl, rfl⟩ rfl rfl rfl rfl rfl (by kernel_rfl) Try.func4 FnExactJoinPlans_facts
    (of_decide_eq_true (by kernel_rfl)) (by unfold Func.isWrapper; first | (rw [if_pos (by decide +kernel)]; kernel_rfl) | (rw [if_neg (by decide +kernel)]; exact ⟨rfl, rfl⟩))
    (fun os started H enc _ => FnExactJoinPlans_handed os started H enc)

end Go.Proofs.Ytnnfbgonjonflaa
