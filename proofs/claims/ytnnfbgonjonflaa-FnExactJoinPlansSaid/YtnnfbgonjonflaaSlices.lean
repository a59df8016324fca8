/- Slices of structs of numbers, as the laws copy them and hold them against each other. -/
import Derived.Test.YtnnfbgonjonflaaInts
set_option linter.unusedSimpArgs false
set_option linter.unusedVariables false
set_option maxRecDepth 100000
set_option maxHeartbeats 4000000
namespace Go.Proofs.Ytnnfbgonjonflaa
open Go Go.Eng

def szSlF : List DV → Option (List DV)
  | [.sl _ n _, .v (.int .i64 left)] => if (n : Int) ≤ 9223372036854775807 ∧ 0 ≤ left ∧ left ≤ 4611686018427387904 then some [.v (.int .i64 (if left < n then -1 else left - n))] else none
  | [.nil, .v (.int .i64 left)] => if 0 ≤ left ∧ left ≤ 4611686018427387904 then some [.v (.int .i64 left)] else none
  | _ => none
theorem firsts_putN {l : List Int} {j : Nat} {x : List Int} (hj : j + x.length ≤ l.length) (hx : ∀ i, i < x.length → x.getD i 0 = l.getD (j + i) 0) : putL (firsts l j) j x = firsts l (j + x.length) := by
  apply list_ext (by rw [putL_length]; simp [firsts_len])
  intro k hk
  rw [putL_length, firsts_len] at hk
  exact firsts_put hj hx hk
def toSl3F : List DV → Option (List DV)
  | [.sl 3 n (.ints .i64 l)] => if n ≤ 1048576 then some [.sl 3 n (.ints .i64 l)] else none
  | [.nil] => some [.sl 3 0 (.ints .i64 [])]
  | _ => none
def toSl6F : List DV → Option (List DV)
  | [.sl 6 n (.ints .i64 l)] => if n ≤ 1048576 then some [.sl 6 n (.ints .i64 l)] else none
  | [.nil] => some [.sl 6 0 (.ints .i64 [])]
  | _ => none
theorem firsts_put3 {l : List Int} {i n : Nat} (hl : l.length = n * 3) (h : i < n) : putL (firsts l (i * 3)) (i * 3) [l.getD (i * 3) 0, l.getD (i * 3 + 1) 0, l.getD (i * 3 + 2) 0] = firsts l ((i + 1) * 3) := by
  have := firsts_putN (l := l) (j := i * 3) (x := [l.getD (i * 3) 0, l.getD (i * 3 + 1) 0, l.getD (i * 3 + 2) 0]) (by simp; omega) (fun j hj => by
    match j, hj with
    | 0, _ => rfl
    | 1, _ => rfl
    | 2, _ => rfl)
  rw [this, show (i + 1) * 3 = i * 3 + 3 by omega]; rfl
theorem firsts_put6 {l : List Int} {i n : Nat} (hl : l.length = n * 6) (h : i < n) : putL (firsts l (i * 6)) (i * 6) [l.getD (i * 6) 0, l.getD (i * 6 + 1) 0, l.getD (i * 6 + 2) 0, l.getD (i * 6 + 3) 0, l.getD (i * 6 + 4) 0, l.getD (i * 6 + 5) 0] = firsts l ((i + 1) * 6) := by
  have := firsts_putN (l := l) (j := i * 6) (x := [l.getD (i * 6) 0, l.getD (i * 6 + 1) 0, l.getD (i * 6 + 2) 0, l.getD (i * 6 + 3) 0, l.getD (i * 6 + 4) 0, l.getD (i * 6 + 5) 0]) (by simp; omega) (fun j hj => by
    match j, hj with
    | 0, _ => rfl
    | 1, _ => rfl
    | 2, _ => rfl
    | 3, _ => rfl
    | 4, _ => rfl
    | 5, _ => rfl)
  rw [this, show (i + 1) * 6 = i * 6 + 6 by omega]; rfl
def eqSl3F : List DV → Option (List DV)
  | [.sl 3 n (.ints .i64 l), .sl 3 m (.ints .i64 l')] => if n ≤ 1048576 then some [.v (.bool (l == l'))] else none
  | [.nil, .sl 3 m (.ints .i64 l')] => some [.v (.bool (m == 0))]
  | _ => none
def eqSl6F : List DV → Option (List DV)
  | [.sl 6 n (.ints .i64 l), .sl 6 m (.ints .i64 l')] => if n ≤ 1048576 then some [.v (.bool (l == l'))] else none
  | [.nil, .sl 6 m (.ints .i64 l')] => some [.v (.bool (m == 0))]
  | _ => none
def eqA4F : List Value → Option Value
  | [.agg ⟨[.int .i64 a, .int .i64 b, .int .i64 c, .int .i64 d]⟩, .agg ⟨[.int .i64 p, .int .i64 q, .int .i64 r, .int .i64 s]⟩] => some (.bool (a == p && b == q && c == r && d == s))
  | _ => none

def cpChoreF : List Value → Option Value
  | [.agg ⟨[.int .i64 x0, .int .i64 x1, .int .i64 x2]⟩] => some (.agg ⟨[.int .i64 x0, .int .i64 x1, .int .i64 x2]⟩)
  | _ => none


def eqChoreF : List Value → Option Value
  | [.agg ⟨[.int .i64 x0, .int .i64 x1, .int .i64 x2]⟩, .agg ⟨[.int .i64 y0, .int .i64 y1, .int .i64 y2]⟩] => some (.bool ((x0 == y0) && (x1 == y1) && (x2 == y2)))
  | _ => none


end Go.Proofs.Ytnnfbgonjonflaa
