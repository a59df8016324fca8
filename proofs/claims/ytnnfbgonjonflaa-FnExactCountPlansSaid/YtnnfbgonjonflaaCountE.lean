/- Plans counted: entries as they lie in a map. -/
import Derived.Test.YtnnfbgonjonflaaCountP
import Derived.Test.YtnnfbgonjonflaaEng30
set_option linter.unusedSimpArgs false
set_option linter.unusedVariables false
set_option maxRecDepth 100000
set_option maxHeartbeats 4000000
namespace Go.Proofs.Ytnnfbgonjonflaa
open Go Go.Eng
def encK (s : Q4) (t : Int) : Value := .agg ⟨[.int .i64 s.a, .int .i64 s.b, .int .i64 s.c, .int .i64 s.d, .int .i64 t]⟩
def encE (M : List (Q4 × Int × Int)) : List (Value × Value) := M.map fun e => (encK e.1 e.2.1, .int .i64 e.2.2)
theorem encK_iff {s s' : Q4} {t t' : Int} : encK s t = encK s' t' ↔ s = s' ∧ t = t' := by
  obtain ⟨a, b, c, d⟩ := s
  obtain ⟨a', b', c', d'⟩ := s'
  simp [encK, and_assoc]
theorem keys_enc (M : List (Q4 × Int × Int)) : keysOk y130 (encE M) := by
  intro e he
  obtain ⟨x, _, rfl⟩ := List.mem_map.1 he
  rfl
theorem enc_len (M : List (Q4 × Int × Int)) : (encE M).length = M.length := by simp [encE]
theorem enc_at {M : List (Q4 × Int × Int)} {j : Nat} (h : j < M.length) : (encE M)[j]? = some (encK (M.getD j (⟨0, 0, 0, 0⟩, 0, 0)).1 (M.getD j (⟨0, 0, 0, 0⟩, 0, 0)).2.1, .int .i64 (M.getD j (⟨0, 0, 0, 0⟩, 0, 0)).2.2) := by
  simp [encE, List.getD_eq_getElem?_getD, h]
theorem pos_enc : ∀ {M : List (Q4 × Int × Int)} {s : Q4} {t : Int}, (lookM M s t = none ∧ posE (encE M) (encK s t) = none) ∨ ∃ c j, lookM M s t = some c ∧ posE (encE M) (encK s t) = some j ∧ ∀ d, (encE M).set j (((encE M).getD j (undef, undef)).1, .int .i64 (c + d)) = encE (addM M s t d)
  | [], _, _ => .inl ⟨rfl, rfl⟩
  | e :: r, s, t => by
    have h0 : encE (e :: r) = (encK e.1 e.2.1, .int .i64 e.2.2) :: encE r := rfl
    rw [h0]
    unfold lookM posE
    by_cases h : e.1 = s ∧ e.2.1 = t
    · right
      refine ⟨e.2.2, 0, if_pos h, by rw [eqV_iff.2 (encK_iff.2 h)]; rfl, fun d => ?_⟩
      rw [addM, if_pos h]; rfl
    · have h1 : eqV (encK e.1 e.2.1) (encK s t) = false := eqV_no fun he => h (encK_iff.1 he)
      rw [if_neg h, h1]
      rcases pos_enc (M := r) (s := s) (t := t) with ⟨h2, h3⟩ | ⟨c, j, h2, h3, h4⟩
      · exact .inl ⟨h2, by rw [h3]; rfl⟩
      · right
        refine ⟨c, j + 1, h2, by rw [h3]; rfl, fun d => ?_⟩
        rw [addM, if_neg h]
        have := h4 d
        simp only [List.set_cons_succ, List.getD_cons_succ]
        rw [this]; rfl
/-- What is looked up, and what is there behind an addition: the entry is new, or not. -/
theorem enc_cases (M : List (Q4 × Int × Int)) (s : Q4) (t : Int) :
    (getE (encE M) (encK s t) = none ∧ (∀ z, getE (encE M ++ [(encK s t, z)]) (encK s t) = some z) ∧ (∀ z d, (encE M ++ [(encK s t, z)]).set (encE M).length (((encE M ++ [(encK s t, z)]).getD (encE M).length (undef, undef)).1, .int .i64 d) = encE (addM M s t d))) ∨
    ∃ c, lookM M s t = some c ∧ getE (encE M) (encK s t) = some (.int .i64 c) ∧ idxE (encE M) (encK s t) < (encE M).length ∧ ∀ d, (encE M).set (idxE (encE M) (encK s t)) (((encE M).getD (idxE (encE M) (encK s t)) (undef, undef)).1, .int .i64 (c + d)) = encE (addM M s t d) := by
  rcases pos_enc (M := M) (s := s) (t := t) with ⟨h2, h3⟩ | ⟨c, j, h2, h3, h4⟩
  · left
    refine ⟨by rw [getE_pos, h3]; rfl, fun z => ?_, fun z d => ?_⟩
    · have key : ∀ (l : List (Value × Value)), posE l (encK s t) = none → getE (l ++ [(encK s t, z)]) (encK s t) = some z := by
        intro l
        induction l with
        | nil => intro _; simp [getE, eqV_self]
        | cons x l ih =>
          intro h
          unfold posE at h
          cases hx : eqV x.1 (encK s t) <;> rw [hx] at h <;> simp only [cond_true, cond_false] at h
          · rw [List.cons_append, getE, hx]
            exact ih (Option.map_eq_none_iff.1 h)
          · cases h
      exact key _ h3
    · have h5 : (encE M ++ [(encK s t, z)]).getD (encE M).length (undef, undef) = (encK s t, z) := by simp [List.getD_eq_getElem?_getD]
      rw [h5]
      have h6 : ∀ (N : List (Q4 × Int × Int)), lookM N s t = none → addM N s t d = N ++ [(s, t, d)] := by
        intro N
        induction N with
        | nil => intro _; rfl
        | cons x N ih =>
          intro h
          rw [lookM] at h
          split at h
          · cases h
          · rename_i hx
            rw [addM, if_neg hx, ih h]; rfl
      rw [h6 M h2]
      simp [encE]
  · right
    have h5 := posE_lt h3
    have h6 := idxE_pos h3
    refine ⟨c, h2, ?_, by rw [h6]; exact h5.1, fun d => by rw [h6]; exact h4 d⟩
    rw [getE_pos, h3]
    have key : ∀ (N : List (Q4 × Int × Int)) (j : Nat), lookM N s t = some c → posE (encE N) (encK s t) = some j → ((encE N).getD j (undef, undef)).2 = .int .i64 c := by
      intro N
      induction N with
      | nil => intro j h _; cases h
      | cons x N ih =>
        intro j h h'
        have h0 : encE (x :: N) = (encK x.1 x.2.1, .int .i64 x.2.2) :: encE N := rfl
        rw [h0] at h' ⊢
        rw [lookM] at h
        unfold posE at h'
        by_cases hx : x.1 = s ∧ x.2.1 = t
        · rw [if_pos hx] at h
          simp only at h'
          rw [eqV_iff.2 (encK_iff.2 hx)] at h'
          obtain rfl := Option.some.inj h'
          obtain rfl := Option.some.inj h
          rfl
        · have h1 : eqV (encK x.1 x.2.1) (encK s t) = false := eqV_no fun he => hx (encK_iff.1 he)
          rw [if_neg hx] at h
          simp only at h'
          rw [h1] at h'
          obtain ⟨i, g1, rfl⟩ := Option.map_eq_some_iff.1 h'
          simpa using ih i h g1
    exact congrArg some (key M j h2 h3)
end Go.Proofs.Ytnnfbgonjonflaa
