/- Plain facts on lists of numbers, and on 64 bits. -/
import Derived.Test.YtjnolfmmlnnoeaaT
set_option linter.unusedSimpArgs false
set_option linter.unusedVariables false
namespace Go.Eng

theorem wrap_small {x : Int} (h : -9223372036854775808 ≤ x ∧ x ≤ 9223372036854775807) : IntKind.i64.wrap x = x := by rw [IntKind.wrap_i64]; omega

theorem wrap_succ {i : Nat} (h : i ≤ 4611686018427387904) : IntKind.i64.wrap ((i : Int) + 1) = ((i + 1 : Nat) : Int) := by rw [wrap_small (by omega)]; rfl

/-- The first 'j' of the cells are there; the others are zero. -/
def firsts (l : List Int) (j : Nat) : List Int := (List.range l.length).map fun k => if k < j then l.getD k 0 else 0
theorem firsts_len (l : List Int) (j : Nat) : (firsts l j).length = l.length := by simp [firsts]
theorem firsts_at {l : List Int} {j k : Nat} (hk : k < l.length) : (firsts l j).getD k 0 = if k < j then l.getD k 0 else 0 := by simp [firsts, List.getD_eq_getElem?_getD, hk]
theorem firsts_put {l : List Int} {j k : Nat} {x : List Int} (hj : j + x.length ≤ l.length) (hx : ∀ i, i < x.length → x.getD i 0 = l.getD (j + i) 0) (hk : k < l.length) : (putL (firsts l j) j x).getD k 0 = (firsts l (j + x.length)).getD k 0 := by
  rw [putL_getD _ _ _ _ _ (by rw [firsts_len]; exact hj), firsts_at hk, firsts_at hk]
  by_cases h1 : j ≤ k ∧ k < j + x.length
  · rw [if_pos h1, if_pos h1.2, hx _ (by omega)]; congr 1; omega
  · rw [if_neg h1]
    by_cases h2 : k < j
    · rw [if_pos h2, if_pos (by omega)]
    · rw [if_neg h2, if_neg (by omega)]

theorem list_ext {l l' : List Int} (hl : l.length = l'.length) (h : ∀ k, k < l.length → l.getD k 0 = l'.getD k 0) : l = l' := by
  apply List.ext_getElem hl
  intro i h1 h2
  have := h i h1
  simpa [List.getD_eq_getElem?_getD, h1, h2] using this

/-! ### Loops -/

theorem weak_mk {fr : Fr} {h h' : Hp} {nb lo lo' : Nat} {L : List (Nat × Value)} (hf : frOk fr L) (hl : lo' ≤ lo) (hh : weakH nb h h') : weakS ⟨fr, h, nb, lo⟩ ⟨frame L, h', nb, lo'⟩ :=
  ⟨frOk_all hf, rfl, hl, hh⟩

/-- The first of 'n' numbers that is so, or -1. -/
def leastIdx (n : Nat) (p : Nat → Bool) : Int := match (List.range n).find? p with | some i => i | none => -1

theorem leastIdx_some {n i : Nat} {p : Nat → Bool} (hi : i < n) (hp : p i = true) (h : ∀ j, j < i → p j = false) : leastIdx n p = i := by
  unfold leastIdx
  have : (List.range n).find? p = some i := by
    rw [List.find?_range_eq_some]
    exact ⟨hp, by simpa using hi, fun j hj => by simp [h j hj]⟩
  rw [this]

theorem leastIdx_none {n : Nat} {p : Nat → Bool} (h : ∀ j, j < n → p j = false) : leastIdx n p = -1 := by
  unfold leastIdx
  have : (List.range n).find? p = none := by
    rw [List.find?_range_eq_none]
    exact fun j hj => by simp [h j hj]
  rw [this]

theorem leastIdx_ge {n : Nat} {p : Nat → Bool} : decide (leastIdx n p ≥ 0) = (List.range n).any p := by
  by_cases h : ∃ i, i < n ∧ p i = true
  · have ex : ∃ i, i < n ∧ p i = true ∧ ∀ j, j < i → p j = false := by
      obtain ⟨i, h1, h2⟩ := h
      induction i using Nat.strongRecOn with
      | _ i ih =>
        by_cases h3 : ∃ j, j < i ∧ p j = true
        · obtain ⟨j, h4, h5⟩ := h3
          exact ih j h4 (by omega) h5
        · exact ⟨i, h1, h2, fun j hj => by
            cases e : p j with
            | false => rfl
            | true => exact absurd ⟨j, hj, e⟩ h3⟩
    obtain ⟨i, h1, h2, h3⟩ := ex
    rw [leastIdx_some h1 h2 h3]
    have : (List.range n).any p = true := List.any_eq_true.2 ⟨i, by simpa using h1, h2⟩
    rw [this]; simp
  · have h' : ∀ j, j < n → p j = false := fun j hj => by
      cases e : p j with
      | false => rfl
      | true => exact absurd ⟨j, hj, e⟩ h
    rw [leastIdx_none h']
    have : (List.range n).any p = false := by
      rw [List.any_eq_false]
      exact fun j hj => by simp [h' j (by simpa using hj)]
    rw [this]; simp

theorem all_true {n : Nat} {p : Nat → Bool} (h : ∀ j, j < n → p j = true) : (List.range n).all p = true := List.all_eq_true.2 fun j hj => h j (by simpa using hj)
theorem all_false {n i : Nat} {p : Nat → Bool} (hi : i < n) (h : p i = false) : (List.range n).all p = false := by
  cases e : (List.range n).all p with
  | false => rfl
  | true => have := List.all_eq_true.1 e i (by simpa using hi); rw [h] at this; cases this
theorem all_not_any {n : Nat} {p : Nat → Bool} : (List.range n).all p = !(List.range n).any fun i => !p i := by simp [List.all_eq_not_any_not]

end Go.Eng
