/- From what a row lists to what the proofs ask of the variables of packages; a world that meets it; no condition. -/
import Derived.Test.YtbhlncohfpempaaDoorT
import Derived.Test.YtbhlncohfpempaaDoorTie
import Derived.Test.YtbhlncohfpempaaDoorCards
import Derived.LaidMore
import Derived.SevenTiedAt
set_option linter.unusedSimpArgs false
set_option linter.unusedVariables false
set_option maxRecDepth 100000
set_option maxHeartbeats 4000000
namespace Go.Proofs.YtbhlncohfpempaaDoor
open Go Go.Eng
open Go.RowKit
def tabKeep (x : String × DataW Unit) : Bool := x.1 == "internal/strconv.uint64pow10"
theorem glok_laid {L : List (String × DataW Unit)} {W : World} (e : L.filter tabKeep = [("internal/strconv.uint64pow10", Lib.tabData .u64 Lib.pow10Tab)]) (h : laidMetH Tryd.prog L W) : ∀ w2 : World, (∀ j, j < W.heap.size → w2.heap[j]? = W.heap[j]?) → GLok w2 := by
  have h1 := h.filter tabKeep
  rw [e] at h1
  have h2 := (laidMetH_iff.1 h1).1
  have h3 : GLok W := Lib.tabIs_of_head (g := 1) (t := 149) (e := 137) (n := 20) (by kernel_rfl) (by kernel_rfl) Tryd.underlying149 Tryd.underlying137 (by kernel_rfl) (by kernel_rfl) h2
  exact fun w2 hk => glok_keep h3 hk
theorem door_met (os : Os) (args : Array Value) : laidMetH Tryd.prog Rows.fnExactEncodeRecordRow.laid ((World.doorLaid Tryd.prog 400 os).forCall (fun _ _ => 0) ⟨#[], args, []⟩).memory :=
  laidMetH_of_parts3 (fuel := 8) (laidMet_of_run' 8 (by kernel_rfl) (by kernel_rfl)) (by kernel_rfl) (by kernel_rfl)
theorem door_shaped (os : Os) : True := trivial
end Go.Proofs.YtbhlncohfpempaaDoor
