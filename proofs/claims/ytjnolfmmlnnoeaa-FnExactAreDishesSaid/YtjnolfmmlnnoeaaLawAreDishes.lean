/- FnExactAreDishes: the program's AreDishes and the reference's tell the same of every list, and leave it as it was; no condition. -/
import Derived.Test.YtjnolfmmlnnoeaaDish
import Derived.Test.YtjnolfmmlnnoeaaRows
set_option linter.unusedSimpArgs false
set_option linter.unusedVariables false
set_option maxRecDepth 100000
namespace Go.Proofs.Ytjnolfmmlnnoeaa
open Go Go.Eng
open Go.ChangeShapes Go.WideShapes Go.ChangeAt Go.RowKit
theorem FnExactAreDishes_body (ds : List DV) (h : ds = [.nil] ∨ ∃ n l, ds = [.sl 3 n (.ints .i64 l)] ∧ l.length = n * 3 ∧ n ≤ maxLen) :
    abody (env Try.f4.ntmps [e_szDishS, e_sAreDishes, e_toDishS, e_AreDishes, e_eqDishS]) Try.f4 (inV ds 0) (inH ds 0) (inN ds 0) fun r _ _ lo => r = .bool true ∧ Nat.ble (inN ds 0) lo = true := by
  rcases h with rfl | ⟨n, l, rfl, hl, hn⟩
  · conv => whnf
    repeat' ((first | refine chk_intro (lexF_ok (by kernel_rfl)) ?_ | refine chk_intro (by (first | (simp [isOne]; done) | ((try simp only [Bool.and_eq_true, decide_eq_true_eq, Nat.blt_eq, Nat.ble_eq, Nat.beq_eq_true_eq]); simp [isOne]; omega) | (simp_all [isOne]; done) | (simp_all [isOne]; omega))) ?_ | refine callD rfl ?_ | refine callD (if_pos (by (first | (simp [isOne]; done) | ((try simp only [Bool.and_eq_true, decide_eq_true_eq, Nat.blt_eq, Nat.ble_eq, Nat.beq_eq_true_eq]); simp [isOne]; omega) | (simp_all [isOne]; done) | (simp_all [isOne]; omega)))) ?_ | refine notsplit ?_ | refine dsplit (fun h => ?_) (fun h => ?_) | refine esplit (fun h => ?_) (fun h => ?_) | refine nsplit (fun h => ?_) (fun h => ?_) | refine bsplit (fun h => ?_) (fun h => ?_)) <;> conv => whnf)
    exact ⟨rfl, rfl⟩
  · have hn' : (n : Int) ≤ 9223372036854775807 := by simp [maxLen] at hn; omega
    clear hn
    have hl' : (l.drop 0).take (n * 3) = l := by rw [List.drop_zero, List.take_of_length_le (by omega)]
    by_cases hn : n ≤ 1048576
    · conv => whnf
      repeat' ((first | refine chk_intro (lexF_ok (by kernel_rfl)) ?_ | refine chk_intro (by (first | (simp [isOne]; done) | ((try simp only [Bool.and_eq_true, decide_eq_true_eq, Nat.blt_eq, Nat.ble_eq, Nat.beq_eq_true_eq]); simp [isOne]; omega) | (simp_all [isOne]; done) | (simp_all [isOne]; omega))) ?_ | refine callD rfl ?_ | refine callD (if_pos (by (first | (simp [isOne]; done) | ((try simp only [Bool.and_eq_true, decide_eq_true_eq, Nat.blt_eq, Nat.ble_eq, Nat.beq_eq_true_eq]); simp [isOne]; omega) | (simp_all [isOne]; done) | (simp_all [isOne]; omega)))) ?_ | refine notsplit ?_ | refine dsplit (fun h => ?_) (fun h => ?_) | refine esplit (fun h => ?_) (fun h => ?_) | refine nsplit (fun h => ?_) (fun h => ?_) | refine bsplit (fun h => ?_) (fun h => ?_)) <;> conv => whnf)
      all_goals first | exact ⟨rfl, rfl⟩ | (simp at h; done)
    · conv => whnf
      repeat' ((first | refine chk_intro (lexF_ok (by kernel_rfl)) ?_ | refine chk_intro (by (first | (simp [isOne]; done) | ((try simp only [Bool.and_eq_true, decide_eq_true_eq, Nat.blt_eq, Nat.ble_eq, Nat.beq_eq_true_eq]); simp [isOne]; omega) | (simp_all [isOne]; done) | (simp_all [isOne]; omega))) ?_ | refine callD rfl ?_ | refine callD (if_pos (by (first | (simp [isOne]; done) | ((try simp only [Bool.and_eq_true, decide_eq_true_eq, Nat.blt_eq, Nat.ble_eq, Nat.beq_eq_true_eq]); simp [isOne]; omega) | (simp_all [isOne]; done) | (simp_all [isOne]; omega)))) ?_ | refine notsplit ?_ | refine dsplit (fun h => ?_) (fun h => ?_) | refine esplit (fun h => ?_) (fun h => ?_) | refine nsplit (fun h => ?_) (fun h => ?_) | refine bsplit (fun h => ?_) (fun h => ?_)) <;> conv => whnf)
      · exact ⟨rfl, rfl⟩
      · rw [Go.Eng.wrap_small (x := 1048576 - (n : Int)) (by omega)] at h
        rw [if_pos (by omega)] at h
        exact absurd h (by omega)

theorem FnExactAreDishes_handed (os : Os) (started : os.Started) (H : Type) (enc : TypeId × Value → H) :
    ReturnsInHanded {} Try.checked os 4 .any (Rows.fnExactAreDishesSpec.pre6 enc Try.prog Try.f4 Rows.fnExactAreDishesRow.domain false) (Rows.fnExactAreDishesSpec.post enc Try.prog Try.f4 false true false false) := by
  refine law_handed (C := Try.checked) Try.own started (by kernel_rfl) Try.func4 rfl rfl Try.underlying4 (fun ds h => ?_) Try.laidOut (by kernel_rfl)
    (ChangeSpec.witness6 (enc := enc) (C := Try.checked) false ⟨#[], #[.slice none 0 0], []⟩ 20 (by kernel_rfl) (by kernel_rfl) (by kernel_rfl) (by kernel_rfl)) ?_
  · match ds, h with
    | [d0], _ => rfl
  · intro W base args ds ps hval0 hA0
    have hval : ∀ (j : Nat) t v, Try.f4.params[j]? = some t → args[j]? = some v → Value.okWide Try.prog W .any base t v := hval0
    have hA : DataW.TrodAll enc Try.prog W 0 (fun _ => true) true Try.f4.params.toList args.toList ds ps := hA0
    rw [Try.params4] at hA hval
    obtain ⟨v0, d0, rfl, rfl, h0⟩ := trodAll_one hA
    rcases slice_ints (n := 20) (es := 3) Try.underlying33 (by kernel_rfl) (by kernel_rfl) (by omega) (hval 0 _ _ rfl rfl) h0 with rfl | ⟨n, l, h1, h2, h3, h4⟩
    · exact law_deep (ds := [.nil]) (env_ok (N := Try.f4.ntmps) (l := [e_szDishS, e_sAreDishes, e_toDishS, e_AreDishes, e_eqDishS]) (live := [])) Try.func4 ⟨rfl, trivial⟩ (FnExactAreDishes_body _ (.inl rfl))
    · exact law_deep (ds := [.sl 3 n (.ints .i64 l)]) (env_ok (N := Try.f4.ntmps) (l := [e_szDishS, e_sAreDishes, e_toDishS, e_AreDishes, e_eqDishS]) (live := [])) Try.func4 ⟨h4, trivial⟩ (FnExactAreDishes_body _ (.inr ⟨n, l, rfl, h1, h3⟩))

theorem FnExactAreDishes_holds : Rows.FnExactAreDishesSaid :=
  OpenClaim.holds_of_wide 4 Try.f4 rfl rfl rfl rfl rfl rfl rfl ⟨rfl, rfl, rfl, rfl, rfl⟩ rfl rfl rfl rfl rfl (by kernel_rfl) Try.func4 (by kernel_rfl)
    (of_decide_eq_true (by kernel_rfl)) (by unfold Func.isWrapper; first | (rw [if_pos (by decide +kernel)]; kernel_rfl) | (rw [if_neg (by decide +kernel)]; exact ⟨rfl, rfl⟩))
    (fun os started H enc _ => FnExactAreDishes_handed os started H enc)
end Go.Proofs.Ytjnolfmmlnnoeaa
