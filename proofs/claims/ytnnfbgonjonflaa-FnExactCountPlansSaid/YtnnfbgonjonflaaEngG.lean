/- What is known of the variables of packages; no condition. -/
import Derived.WalkKit
/-! What is known of the variables of packages: nothing. -/
namespace Go.Eng
def GLok (_ : World) : Prop := True
theorem glok {w : World} : GLok w := trivial
end Go.Eng
