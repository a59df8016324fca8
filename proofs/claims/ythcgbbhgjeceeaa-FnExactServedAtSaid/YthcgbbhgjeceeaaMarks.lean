/- Marks in slices. -/
import Derived.Test.YthcgbbhgjeceeaaSlices
set_option linter.unusedSimpArgs false
set_option linter.unusedVariables false
set_option maxRecDepth 100000
set_option maxHeartbeats 4000000
namespace Go.Proofs.Ythcgbbhgjeceeaa
open Go Go.Eng
theorem held_no {l : List Int} {k : Int} {n i : Nat} (h : i < n) (hne : l.getD i 0 ≠ k + i) : ¬ l = marks k n := fun e => by
  have := marks_at (k := k) (n := n) (i := i) h
  rw [← e] at this; exact hne this
theorem held_yes {l : List Int} {k : Int} {n : Nat} (hl : l.length = n) (h : ∀ j, j < n → l.getD j 0 = k + j) : l = marks k n :=
  list_ext (by rw [marks_len]; exact hl) fun j hj => by rw [marks_at (by omega)]; exact h j (by omega)
theorem held_next {l : List Int} {k : Int} {i i' : Nat} (h : ∀ j, j < i → l.getD j 0 = k + j) (e : i' = i + 1) (h1 : l.getD i 0 = k + i) : ∀ j, j < i' → l.getD j 0 = k + j := fun j hj => by
  rcases Nat.lt_or_ge j i with hj1 | hj1
  · exact h j hj1
  · obtain rfl : j = i := by omega
    exact h1
theorem marks_put {l : List Int} {k x : Int} {i i' n : Nat} (hl : l.length = n) (h : i < n) (e : i' = i + 1) (hx : x = k + i) : (marks k i ++ l.drop i).set i x = marks k i' ++ l.drop i' := by
  subst e hx; exact marks_step hl h
def heldSl3F : List DV → Option (List DV)
  | [.sl 3 n (.ints .i64 l), .v (.int .i64 k)] => if n ≤ 1048576 ∧ 0 ≤ k ∧ k ≤ 1073741824 then some [.v (.int .i64 (if l = marks k (n * 3) then k + n * 3 else -1))] else none
  | [.nil, .v (.int .i64 k)] => some [.v (.int .i64 k)]
  | _ => none
def markSl3F : List DV → Option (Cel × List DV)
  | [.sl 3 n (.ints .i64 l), .v (.int .i64 k)] => if n ≤ 1048576 ∧ 0 ≤ k ∧ k ≤ 1073741824 then some (.ints .i64 (marks k (n * 3)), [.v (.int .i64 (k + n * 3))]) else none
  | [.nil, .v (.int .i64 k)] => some (.ints .i64 [], [.v (.int .i64 k)])
  | _ => none
end Go.Proofs.Ythcgbbhgjeceeaa
