/- A part of the interpreter of Go code, and of the proof that it says what Go does; no condition. -/
import Derived.Test.YtnnfbgonjonflaaEng19
import Derived.Sort.Grow
import Derived.Lib.SlicesCompact
/-! slices.Sort and slices.Compact on slices of ints, out of the contracts of the kit's shelf. -/
namespace Go.Eng
open Go.Sort

theorem heap_putRow (w : World) (blk : Nat) (d : Array Int) (n : Nat) (os : Array Obj) : (grow (putRow (Value.int .i64) (Sort.ahead w n) blk 0 d) os).heap = (w.heap.modify blk (onCells (Go.Sort.putCells (Value.int .i64) 0 d))) ++ os := rfl

theorem rowTo_of {W W' : World} {blk n : Nat} {l : List Int} {os : Array Obj} (h : W' = grow (putRow (Value.int .i64) (Sort.ahead W n) blk 0 l.toArray) os) : RowTo W W' blk l := by
  subst h
  refine ⟨by rw [heap_putRow]; simp, fun i hi hne => ?_, fun C t fz hC hl => ?_, ⟨rfl, rfl, rfl⟩⟩
  · rw [heap_putRow, Array.getElem?_append_left (by simpa using hi), Array.getElem?_modify, if_neg (Ne.symm hne)]
  · have hlt : blk < W.heap.size := (Array.getElem?_eq_some_iff.1 hC).1
    refine ⟨Go.Sort.putCells (Value.int .i64) 0 l.toArray C, ?_, by simp [Go.Sort.putCells], fun o ho => ?_⟩
    · rw [heap_putRow, Array.getElem?_append_left (by simpa using hlt), Array.getElem?_modify, if_pos rfl, hC]
      rfl
    · simp only [Go.Sort.putCells, Array.getElem?_mapIdx, Nat.zero_le, true_and, Nat.zero_add, Nat.sub_zero, List.size_toArray]
      rw [Array.getElem?_eq_getElem (by omega)]
      simp [ho, List.getD_eq_getElem?_getD]

theorem holds_of {W : World} {blk : Nat} {l : List Int} (h : ∀ C t fz, W.heap[blk]? = some (.cells C t fz) → ∀ o, o < l.length → C[o]? = some (.int .i64 (l.getD o 0)) ∧ ¬ (fz.1 ≤ o ∧ o < fz.2)) (hb : ∃ C t fz, W.heap[blk]? = some (.cells C t fz)) : Go.Sort.Holds (Value.int .i64) W blk 0 l.toArray := by
  obtain ⟨C, t, fz, hb⟩ := hb
  intro j hj
  obtain ⟨h1, h2⟩ := h C t fz hb j (by simpa using hj)
  refine ⟨?_, ?_⟩
  · simp only [World.cell?, hb, Nat.zero_add, Option.isSome_none, Bool.false_eq_true, if_false]
    rw [h1]
    simp [List.getD_eq_getElem?_getD]
  · simp only [World.frozen?, hb, Nat.zero_add]
    rw [← Bool.decide_and]
    exact decide_eq_false h2
def sortG (l : List Int) : List Int := l.mergeSort fun x y => decide (x ≤ y)
def compL (l : List Int) : List Int := Lib.compactUpTo l.toArray l.toArray.size
def compG (l : List Int) : List Int := compL l ++ List.replicate (l.length - (compL l).length) 0
def sortTop : Nat := 4611686018427387903

theorem compL_le (l : List Int) : (compL l).length ≤ l.length := by
  unfold compL Lib.compactUpTo
  rw [List.length_map]
  exact Nat.le_trans (List.length_filter_le _ _) (by simp)

theorem sort_sound {P : Program} {f : Nat}
    (h : ∀ (blk off cap : Nat) (zs : List Int) (w : World), Go.Sort.Holds (Value.int .i64) w blk off zs.toArray → blk < w.heap.size → zs.length < 4611686018427387904 →
      Calls P f #[.slice (some ⟨blk, off, none⟩) zs.length cap] w fun e w' => e = .returned (.tuple #[]) ∧ ∃ n os, w' = grow (putRow (Value.int .i64) (Sort.ahead w n) blk off (zs.mergeSort fun x y => decide (x ≤ y)).toArray) os)
    (h0 : ∀ (p : Option Addr) (cap : Nat) (w : World), Calls P f #[.slice p 0 cap] w fun e w' => e = .returned (.tuple #[]) ∧ w' = w) : SoundW P f (rowSem sortG none sortTop) := by
  refine row_sound (fun l => List.length_mergeSort _) (fun k l e => by cases e) (fun W blk cap l ht hc hh hb => ?_) (fun W a => ?_)
  · obtain ⟨C, t, fz, hb'⟩ := hb
    refine (h blk 0 cap l W (holds_of hh ⟨C, t, fz, hb'⟩) (Array.getElem?_eq_some_iff.1 hb').1 (by unfold sortTop at ht; omega)).mono ?_
    rintro e w' ⟨rfl, n, os, hw⟩
    exact ⟨rfl, rowTo_of hw⟩
  · refine (h0 (some a) 0 W).mono ?_
    rintro e w' ⟨rfl, rfl⟩
    exact ⟨rfl, Keeps.refl _⟩

theorem comp_sound {P : Program} {f : Nat}
    (h : ∀ (blk off cap : Nat) (d : Array Int) (w : World), Go.Sort.Holds (Value.int .i64) w blk off d → d.size ≤ 9223372036854775807 → d.size ≤ cap →
      Calls P f #[.slice (some ⟨blk, off, none⟩) d.size cap] w fun e w' => e = .returned (.slice (some ⟨blk, off, none⟩) (Lib.compactUpTo d d.size).length cap) ∧ ∃ q, w' = putRow (Value.int .i64) (Sort.ahead w q) blk off (Lib.compactUpTo d d.size ++ List.replicate (d.size - (Lib.compactUpTo d d.size).length) 0).toArray)
    (h0 : ∀ (a : Addr) (w : World), Calls P f #[.slice (some a) 0 0] w fun e w' => e = .returned (.slice (some a) 0 0) ∧ w' = w) : SoundW P f (rowSem compG (some fun l => (compL l).length) sortTop) := by
  refine row_sound (fun l => ?_) (fun k l e => by cases e; exact compL_le l) (fun W blk cap l ht hc hh hb => ?_) (fun W a => ?_)
  · have := compL_le l
    simp only [compG, List.length_append, List.length_replicate]
    omega
  · refine (h blk 0 cap l.toArray W (holds_of hh hb) (by simp; unfold sortTop at ht; omega) (by simpa using hc)).mono ?_
    rintro e w' ⟨rfl, q, hw⟩
    refine ⟨rfl, rowTo_of (n := q) (os := #[]) ?_⟩
    rw [grow_empty, hw]
    simp [compG, compL]
  · refine (h0 a W).mono ?_
    rintro e w' ⟨rfl, rfl⟩
    exact ⟨rfl, Keeps.refl _⟩
end Go.Eng
