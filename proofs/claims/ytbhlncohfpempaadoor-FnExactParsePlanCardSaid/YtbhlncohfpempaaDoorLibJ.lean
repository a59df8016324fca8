/- Texts joined by the library: what it answers; no condition. -/
import Derived.Test.YtbhlncohfpempaaDoorLibD
set_option linter.unusedSimpArgs false
set_option linter.unusedVariables false
set_option maxRecDepth 100000
set_option maxHeartbeats 4000000
namespace Go.Proofs.YtbhlncohfpempaaDoor
open Go Go.Eng
open Go.Lib Go.Shelf Go.Proofs Go.RowKit
theorem lJoin_extra : Builder.Extra Tryd.prog lJoin_ren where
  sizeBuilder := by kernel_rfl
  liesBuilder := by kernel_rfl
  t5 := Tryd.underlying5
  a5 := Tryd.isAgg5
  z5 := Tryd.sizeOf5
  v5 := Tryd.zeroValue5
  infoByte := by kernel_rfl
  cellsByte := by kernel_rfl
  sizeByte := by kernel_rfl
  neB5 := by decide
def joinF : List DV → Option (List DV)
  | [.sl 1 n (.strs l), .v (.string sep)] => if n ≤ 1048576 ∧ (Lib.join (l.map bs) (bs sep)).length ≤ 1073741824 then some [.v (.string (mk (Lib.join (l.map bs) (bs sep))))] else none
  | _ => none
theorem below_keeps {w w' : World} (h : Below w.heap.size w w') : Keeps w w' := by
  obtain ⟨h1, h2, h3, h4, h5⟩ := h
  exact ⟨fun j hj => h5 j hj, h1, h2, h3⟩
theorem strJoin_sound : SoundW Tryd.prog 86 (deepSem joinF) := libD_sound (fun ds rs h => by
    unfold joinF at h
    split at h
    · split at h <;> cases h
      exact ⟨_, rfl, rfl⟩
    · cases h) (fun ds x vs W β Hh nb h hg ha => by
    unfold joinF at h
    split at h
    · rename_i n l sep
      split at h <;> cases h
      rename_i hn
      match vs, ha with
      | [v1, v2], ⟨h1, h2, _⟩ =>
        obtain ⟨_, rfl⟩ := h2
        obtain ⟨_, _, hok, bl, C, t, fz, e1, e2, e3, e4, e5⟩ := h1
        have hl : l.length = n := hok.trans (Nat.mul_one n)
        rcases e5 with ⟨cap, rfl, hc, hcz⟩ | ⟨hz, a', rfl⟩
        · subst hl
          have hb : bl.blk < W.heap.size := by
            rcases Nat.lt_or_ge bl.blk W.heap.size with h | h
            · exact h
            · rw [Array.getElem?_eq_none h] at e1; cases e1
          refine (Any.strings_Join lJoin lJoin_extra bl.blk bl.sh cap l sep W (fun j x hx => ?_) hb (by omega) hc ?_).mono ?_
          · have hj := (List.getElem?_eq_some_iff.1 hx).1
            have := e4 j (by omega)
            simp only [World.cell?, e1, Option.isSome_none, Bool.false_eq_true, if_false]
            rw [this]
            simp [Cel.at, List.getD_eq_getElem?_getD, hx]
          · exact Nat.le_trans hn.2 (by decide)
          · rintro e w' ⟨rfl, hb⟩
            exact ⟨rfl, below_keeps hb⟩
        · subst hz
          obtain rfl : l = [] := List.eq_nil_of_length_eq_zero hl
          refine (Any.strings_Join_none lJoin lJoin_extra (some a') 0 sep W).mono ?_
          rintro e w' ⟨rfl, rfl⟩
          exact ⟨rfl, Keeps.refl _⟩
    · cases h)
noncomputable def e_strJoin : Ent Tryd.prog := .deep 86 joinF ⟨_, Tryd.func86, rfl, by kernel_rfl⟩ strJoin_sound

end Go.Proofs.YtbhlncohfpempaaDoor
