/- A part of the interpreter of Go code, and of the proof that it says what Go does; no condition. -/
import Derived.Test.YtnnfbgonjonflaaEng15
import Derived.Test.YtnnfbgonjonflaaEng18
import Derived.ChangeMaps5
/-! Arguments of a law: strings, bools, and structs of them. -/
set_option linter.unusedSimpArgs false
set_option linter.unusedVariables false
namespace Go.Eng
open Go.RowKit Go.WideShapes Go.ChangeShapes
variable {P : Program}

section
variable {H : Type} {enc : TypeId × Value → H} {W : World} {base : Nat} {sp : Nat → Bool} {held : Bool}

theorem string_arg {t : Nat} {v : Value} {d : DataW H} {ps : List MemPlace} (hu : P.underlying t = some .string) {b : Nat} (hv : Value.okWide P W .any base t v) (h : DataW.Trod enc P W b sp held t v d ps) :
    ∃ s, v = .string s ∧ s.size ≤ maxLen := by
  obtain ⟨s, rfl, _, _, hw⟩ := Go.ChangeMaps.open_string hu hv h
  exact ⟨s, rfl, hw⟩

theorem bool_arg {t : Nat} {v : Value} {d : DataW H} {ps : List MemPlace} (hu : P.underlying t = some .bool) {b : Nat} (hv : Value.okWide P W .any base t v) (h : DataW.Trod enc P W b sp held t v d ps) :
    ∃ s, v = .bool s ∧ True := by
  obtain ⟨s, rfl, _, _⟩ := open_bool hu hv h
  exact ⟨s, rfl, trivial⟩
end

theorem leaf_cons {t : TypeDesc} {ds : List TypeDesc} {l : List Value} (h : LeavesOk (t :: ds) l) : ∃ v l', l = v :: l' ∧ leafOk t v ∧ LeavesOk ds l' := by
  cases l with
  | nil => have := h.1; simp at this
  | cons v l' => exact ⟨v, l', rfl, by simpa using h.2 0 (by simp), ⟨by simpa using h.1, fun i hi => by simpa using h.2 (i + 1) (by simpa using hi)⟩⟩

theorem leaf_int {k : IntKind} {ds : List TypeDesc} {l : List Value} (h : LeavesOk (.int k :: ds) l) : ∃ (x : Int) (l' : List Value), l = .int k x :: l' ∧ (Lit.int k x).wf = true ∧ LeavesOk ds l' := by
  obtain ⟨v, l', rfl, h1, h2⟩ := leaf_cons h
  cases v <;> simp only [leafOk] at h1
  obtain ⟨rfl, h1⟩ := h1
  exact ⟨_, _, rfl, h1, h2⟩

theorem leaf_string {ds : List TypeDesc} {l : List Value} (h : LeavesOk (.string :: ds) l) : ∃ (x : ByteArray) (l' : List Value), l = .string x :: l' ∧ x.size ≤ maxLen ∧ LeavesOk ds l' := by
  obtain ⟨v, l', rfl, h1, h2⟩ := leaf_cons h
  cases v <;> simp only [leafOk] at h1
  exact ⟨_, _, rfl, h1, h2⟩

theorem leaf_bool {ds : List TypeDesc} {l : List Value} (h : LeavesOk (.bool :: ds) l) : ∃ (x : Bool) (l' : List Value), l = .bool x :: l' ∧ True ∧ LeavesOk ds l' := by
  obtain ⟨v, l', rfl, h1, h2⟩ := leaf_cons h
  cases v <;> simp only [leafOk] at h1
  exact ⟨_, _, rfl, trivial, h2⟩

theorem leaf_nil {l : List Value} (h : LeavesOk [] l) : l = [] := List.eq_nil_of_length_eq_zero (by simpa using h.1)

end Go.Eng
