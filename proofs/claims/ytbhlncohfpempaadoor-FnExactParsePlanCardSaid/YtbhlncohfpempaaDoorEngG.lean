/- What is known of the variables of packages: the library's table of the powers of ten lies as its text lays it; no condition. -/
import Derived.WalkKit
import Derived.Test.YtbhlncohfpempaaDoorProg
import Derived.Lib.LaidTab
import Derived.Lib.ItoaNum
namespace Go.Eng
def GLok (w : World) : Prop := Lib.TabIs Go.Proofs.Tryd.prog w "internal/strconv.uint64pow10" .u64 Lib.pow10Tab
theorem glok_keep {W w2 : World} (h : GLok W) (h2 : ∀ j, j < W.heap.size → w2.heap[j]? = W.heap[j]?) : GLok w2 := by
  unfold GLok Lib.TabIs World.var? at *
  cases e : Go.Proofs.Tryd.prog.globalNamed "internal/strconv.uint64pow10" with
  | none => rw [e] at h; cases h
  | some g =>
    rw [e] at h
    simp only [Option.bind_some] at h ⊢
    rcases Nat.lt_or_ge g W.heap.size with h3 | h3
    · rw [h2 g h3]; exact h
    · rw [Array.getElem?_eq_none h3] at h; cases h
end Go.Eng
