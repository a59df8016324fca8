/- A part of the interpreter of Go code, and of the proof that it says what Go does; no condition. -/
import Derived.Test.YtnnfbgonjonflaaEng19
import Derived.Shelf.Spec.SlicesGrow
/-! slices.Grow of no slice, out of the contract of the kit's shelf. -/
namespace Go.Eng
open Go.Proofs Go.Shelf
variable {P : Program}

/-- Room for so many ints. -/
inductive GrowK (n : Int) (X Y : Prop) : Prop
  | zero (h : n = 0) (k : X)
  | pos (h : 0 < n ∧ n ≤ 1048576) (k : Y)

def growSem : Sem1 := fun args H nb K =>
  match args with
  | [.slice none 0 0, .int .i64 n] => GrowK n (K (.slice none 0 0) H nb nb) (K (.slice (some ⟨nb, 0, some 0⟩) 0 1) (upd H nb (.cells true true 0 (.ints .i64 []))) (nb + 1) nb)
  | _ => False

theorem grow_sound {f : Nat} (h0 : ∀ w : World, Calls P f #[.slice none 0 0, .int .i64 ((0 : Nat) : Int)] w fun e w' => e = .returned (.slice none 0 0) ∧ w' = w)
    (h1 : ∀ (n : Nat) (w : World), 0 < n → n ≤ 1048576 → Calls P f #[.slice none 0 0, .int .i64 (n : Int)] w fun e w' => ∃ C t cap, e = .returned (.slice (some ⟨w.heap.size, 0, none⟩) 0 cap) ∧ w' = w.drew.alloc (.cells ⟨C⟩ t) ∧ cap ≤ C.length) : SoundW P f growSem := by
  intro args H nb K hk Fb β W argsC R ha
  unfold growSem at hk
  split at hk
  case h_2 => exact hk.elim
  rename_i n
  obtain rfl := flats_eq ha rfl
  cases hk with
  | zero h k =>
    subst h
    refine (h0 W).mono ?_
    rintro e w' ⟨rfl, rfl⟩
    exact ⟨_, H, nb, nb, β, _, k, rfl, .sl0 0 0, R, Foot.refl _ _ _ _⟩
  | pos h k =>
    obtain ⟨m, rfl⟩ := Int.eq_ofNat_of_zero_le (show 0 ≤ n by omega)
    refine (h1 m W (by omega) (by omega)).mono ?_
    rintro e w' ⟨C, t, cap, rfl, rfl, hc⟩
    have kd := keeps_drew W
    have R1 : Rel Fb β H nb W.drew := R.keep kd
    have F1 : Foot W nb β H nb β H nb W.drew := Foot.keep_of kd
    have R2 := R1.alloc (C := C) (t := t) (n := 0) (fl := true) (g := .ints .i64 []) (Nat.zero_le _) (fun i hi => absurd hi (Nat.not_lt_zero _)) ⟨fun _ i hi => absurd hi (Nat.not_lt_zero _), rfl⟩
    have F2 := F1.trans (Foot.alloc (β := β) (H := H) (nb := nb) (w := W.drew) (.cells ⟨C⟩ t) (.cells true true 0 (.ints .i64 [])) C.length)
    refine ⟨_, _, _, nb, _, _, k, rfl, ?_, R2, by simpa using F2⟩
    refine .sl (cap := cap) ⟨Nat.lt_succ_self _, ?_⟩ ?_ (Nat.zero_le _)
    · rw [upd_same]
      exact ⟨Nat.le_refl _, fun _ => by rw [upd_same]; rfl⟩
    · unfold RoomOk
      simp only [upd_same]
      intro _; omega

theorem grow_of {ρ : Ren} (L : Lays8.n4 P ρ) (i0 : TypeInfo) (hi0 : P.info? (ρ.t 25) = some i0) {z : Value} (hz0 : i0.zero = some z) (hzc : z.cells = ⟨[.int .i64 0]⟩) (hs0 : i0.size = 1) (hb : i0.bytes = 8) : SoundW P (ρ.f 4) growSem := by
  refine grow_sound (fun w => Any8.slices_Grow_room L none 0 0 0 w (Nat.le_refl _) (by omega) (by omega) (Nat.le_refl _)) fun n w h h' => ?_
  refine (Any8.slices_Grow_grow L i0 _ hi0 hz0 (by omega) none 0 0 n [] w (Nat.le_refl _) (by omega) (by rw [hb]; omega) (by omega) (by simp) (fun _ => rfl) (fun a ha => by cases ha)).mono ?_
  rintro e w' ⟨rfl, rfl⟩
  have hz : ∀ k, (Builtin.zeroCells z.cells k).size = k := fun k => by simp [Builtin.zeroCells, hzc]
  have hG := grownCap_ge w (0 + n) 0 (ρ.t 25)
  refine ⟨([].toArray ++ Builtin.zeroCells z.cells (0 + n - 0) ++ Builtin.zeroCells z.cells (grownCap w (0 + n) 0 (ρ.t 25) - (0 + n))).toList, _, _, rfl, rfl, ?_⟩
  rw [Array.length_toList, Array.size_append, Array.size_append, hz, hz]
  simp only [List.size_toArray, List.length_nil]
  omega
end Go.Eng
