/- A part of the interpreter of Go code, and of the proof that it says what Go does; no condition. -/
import Derived.Test.YtnnfbgonjonflaaEng8
/-! Callees that are walked where they are called, and write nothing that was there. -/
set_option linter.unusedSimpArgs false
set_option linter.unusedVariables false
namespace Go.Eng

def keepS (S : Sem1) : Sem1 := fun args H nb K => S args H nb fun r H' nb' lo => chk (Nat.ble nb lo) (K r H' nb' lo)
theorem keepS_sound {P : Program} {f : Nat} {S : Sem1} (h : SoundW P f S) : SoundW P f (keepS S) := by
  intro args H nb K hk Fb β W argsC R ha
  refine (h _ _ _ _ hk Fb β W argsC R ha).mono ?_
  rintro e W' ⟨r, H', nb', lo, β', v', h1, h2⟩
  exact ⟨r, H', nb', lo, β', v', (chk_out h1).2, h2⟩
theorem keepS_keeps {S : Sem1} : KeepsSem (keepS S) := by
  intro args H nb K h
  have e : (fun r H' nb' lo => chk (Nat.ble nb lo) (K r H' nb' lo)) = fun r H' nb' lo => chk (Nat.ble nb lo) (K r H' nb' lo ∧ nb ≤ lo) := by
    funext r H' nb' lo
    apply propext
    constructor
    · intro h
      obtain ⟨h1, h2⟩ := chk_out h
      exact chk_intro h1 ⟨h2, by simpa using h1⟩
    · intro h
      obtain ⟨h1, h2⟩ := chk_out h
      exact chk_intro h1 h2.1
  unfold keepS at h ⊢
  rw [← e]; exact h
def keepE {P : Program} (f : Nat) (S : Sem1) (h : Enters P f) (hs : SoundW P f S) : Ent P := ⟨f, keepS S, noQ, true, h, keepS_sound hs, noQ_sound, fun _ => keepS_keeps⟩

end Go.Eng
