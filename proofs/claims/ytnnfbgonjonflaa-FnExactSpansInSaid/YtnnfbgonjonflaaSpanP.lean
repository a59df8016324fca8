/- Sorted and compacted is put in one by one; no condition. -/
import Derived.Test.YtnnfbgonjonflaaEng20
namespace Go.Eng
open Go.Lib

def putI : List Int → Int → List Int
  | [], x => [x]
  | y :: l, x => if y < x then y :: putI l x else if y = x then y :: l else x :: y :: l

theorem mem_putI (l : List Int) (x z : Int) : z ∈ putI l x ↔ z ∈ l ∨ z = x := by
  induction l with
  | nil => simp [putI]
  | cons y l ih =>
    unfold putI
    split
    · simp only [List.mem_cons, ih]
      constructor
      · rintro (h | h | h) <;> simp [h]
      · rintro ((h | h) | h) <;> simp [h]
    · split
      · rename_i h; subst h; simp; intro h; exact .inl h
      · simp only [List.mem_cons]
        constructor
        · rintro (h | h | h) <;> simp [h]
        · rintro ((h | h) | h) <;> simp [h]

theorem pw_putI {l : List Int} (h : l.Pairwise (· < ·)) (x : Int) : (putI l x).Pairwise (· < ·) := by
  induction l with
  | nil => simp [putI]
  | cons y l ih =>
    have h1 := List.pairwise_cons.1 h
    unfold putI
    split
    · rename_i hlt
      refine List.pairwise_cons.2 ⟨fun z hz => ?_, ih h1.2⟩
      rcases (mem_putI l x z).1 hz with h | rfl
      · exact h1.1 z h
      · exact hlt
    · split
      · exact h
      · refine List.pairwise_cons.2 ⟨fun z hz => ?_, h⟩
        rcases List.mem_cons.1 hz with rfl | hz
        · omega
        · have := h1.1 z hz; omega

def putAll (ps : List Int) : List Int := ps.foldl putI []

theorem putAll_aux (ps : List Int) : ∀ l : List Int, l.Pairwise (· < ·) → (ps.foldl putI l).Pairwise (· < ·) ∧ ∀ z, z ∈ ps.foldl putI l ↔ z ∈ l ∨ z ∈ ps := by
  induction ps with
  | nil => intro l h; exact ⟨h, fun z => by simp⟩
  | cons p ps ih =>
    intro l h
    have := ih (putI l p) (pw_putI h p)
    refine ⟨this.1, fun z => ?_⟩
    rw [List.foldl_cons, this.2 z, mem_putI]
    simp only [List.mem_cons]
    constructor
    · rintro ((h | h) | h) <;> simp [h]
    · rintro (h | h | h) <;> simp [h]

theorem eq_of_pw : ∀ {a b : List Int}, a.Pairwise (· < ·) → b.Pairwise (· < ·) → (∀ z, z ∈ a ↔ z ∈ b) → a = b
  | [], [], _, _, _ => rfl
  | [], y :: b, _, _, h => absurd ((h y).2 (by simp)) (by simp)
  | x :: a, [], _, _, h => absurd ((h x).1 (by simp)) (by simp)
  | x :: a, y :: b, ha, hb, h => by
    have ha1 := List.pairwise_cons.1 ha
    have hb1 := List.pairwise_cons.1 hb
    have hxy : x = y := by
      rcases List.mem_cons.1 ((h x).1 (by simp)) with e | e
      · exact e
      · rcases List.mem_cons.1 ((h y).2 (by simp)) with e' | e'
        · exact e'.symm
        · have := hb1.1 x e; have := ha1.1 y e'; omega
    subst hxy
    rw [eq_of_pw ha1.2 hb1.2 fun z => ?_]
    have hz := h z
    simp only [List.mem_cons] at hz
    constructor
    · intro hm
      rcases hz.1 (.inr hm) with e | e
      · have := ha1.1 z hm; omega
      · exact e
    · intro hm
      rcases hz.2 (.inr hm) with e | e
      · have := hb1.1 z hm; omega
      · exact e

theorem compact_pw (d : Array Int) (hs : ∀ i j : Nat, i ≤ j → j < d.size → d[i]! ≤ d[j]!) : ∀ m, m ≤ d.size → (compactUpTo d m).Pairwise (· < ·) ∧ ∀ z, z ∈ compactUpTo d m ↔ ∃ k, k < m ∧ d[k]! = z
  | 0, _ => by simp [compactUpTo]
  | m + 1, hm => by
    have ⟨h1, h2⟩ := compact_pw d hs m (by omega)
    rw [compactUpTo_succ]
    cases hk : keeps d m with
    | false =>
      simp only [Bool.false_eq_true, if_false, List.append_nil]
      refine ⟨h1, fun z => ?_⟩
      rw [h2]
      simp only [keeps, decide_eq_false_iff_not, not_or] at hk
      have e : d[m]! = d[m - 1]! := Classical.not_not.1 hk.2
      constructor
      · rintro ⟨k, a, b⟩; exact ⟨k, by omega, b⟩
      · rintro ⟨k, a, b⟩
        by_cases e2 : k = m
        · subst e2; exact ⟨k - 1, by have := hk.1; omega, by rw [← e]; exact b⟩
        · exact ⟨k, by omega, b⟩
    | true =>
      simp only [if_true]
      simp only [keeps, decide_eq_true_eq] at hk
      refine ⟨List.pairwise_append.2 ⟨h1, by simp, fun a ha b hb => ?_⟩, fun z => ?_⟩
      · rw [List.mem_singleton] at hb
        subst hb
        obtain ⟨k, hk1, rfl⟩ := (h2 a).1 ha
        have a1 := hs k (m - 1) (by omega) (by omega)
        have a2 := hs (m - 1) m (by omega) (by omega)
        rcases hk with hk | hk
        · omega
        · omega
      · rw [List.mem_append, List.mem_singleton, h2]
        constructor
        · rintro (⟨k, a, b⟩ | h)
          · exact ⟨k, by omega, b⟩
          · exact ⟨m, by omega, h.symm⟩
        · rintro ⟨k, a, b⟩
          by_cases e2 : k = m
          · subst e2; exact .inr b.symm
          · exact .inl ⟨k, by omega, b⟩

/-- **SORTED AND COMPACTED IS PUT IN ONE BY ONE.** -/
theorem comp_sort (ps : List Int) : compL (sortG ps) = putAll ps := by
  have hp := putAll_aux ps [] .nil
  have hsort : (sortG ps).Pairwise (· ≤ ·) := by
    have := List.pairwise_mergeSort (le := fun x y : Int => decide (x ≤ y)) (fun a b c h1 h2 => by simp at *; omega) (fun a b => by simp; omega) ps
    exact this.imp (fun h => by simpa using h)
  have hg : ∀ k, k < (sortG ps).length → (sortG ps).toArray[k]! = (sortG ps).getD k 0 := fun k hk => by
    simp [List.getD_eq_getElem?_getD, hk]
  have hc := compact_pw (sortG ps).toArray (fun i j hij hj => by
    have hj : j < (sortG ps).length := by simpa using hj
    rcases Nat.lt_or_ge i j with h | h
    · have := List.pairwise_iff_getElem.1 hsort i j (by omega) hj h
      simp [getElem!_pos, hj, show i < (sortG ps).length by omega]
      exact this
    · obtain rfl : i = j := by omega
      exact Int.le_refl _) (sortG ps).toArray.size (Nat.le_refl _)
  refine eq_of_pw hc.1 hp.1 fun z => ?_
  have h1 := hc.2 z
  have h2 := hp.2 z
  unfold compL
  unfold putAll
  have hm : z ∈ sortG ps ↔ z ∈ ps := (List.mergeSort_perm ps _).mem_iff
  rw [h1, h2, show (z ∈ ([] : List Int) ∨ z ∈ ps) ↔ z ∈ sortG ps by simp [hm], List.mem_iff_getElem]
  simp only [List.size_toArray]
  constructor
  · rintro ⟨k, a, b⟩
    exact ⟨k, a, by rw [← b]; simp [a]⟩
  · rintro ⟨k, a, b⟩
    exact ⟨k, a, by rw [← b]; simp [a]⟩

theorem putI_at : ∀ (l : List Int) (x : Int) (k : Nat), (∀ j, j < k → l.getD j 0 < x) → k ≤ l.length → (k = l.length ∨ ¬ l.getD k 0 < x) →
    ((k < l.length ∧ l.getD k 0 = x) → putI l x = l) ∧ (¬ (k < l.length ∧ l.getD k 0 = x) → putI l x = l.take k ++ x :: l.drop k)
  | [], x, k, h, hk, he => by
    obtain rfl : k = 0 := by simpa using hk
    refine ⟨fun h => by simp at h, fun _ => by simp [putI]⟩
  | y :: l, x, 0, h, hk, he => by
    have hy : ¬ y < x := by
      rcases he with he | he
      · simp at he
      · simpa using he
    unfold putI
    rw [if_neg hy]
    refine ⟨fun h => ?_, fun h => ?_⟩
    · have : y = x := by simpa using h
      rw [if_pos this]
    · have : ¬ y = x := by simpa using h
      rw [if_neg this]; rfl
  | y :: l, x, k + 1, h, hk, he => by
    have hy : y < x := by simpa using h 0 (by omega)
    have ih := putI_at l x k (fun j hj => by simpa using h (j + 1) (by omega)) (by simpa using hk) (by simpa using he)
    unfold putI
    rw [if_pos hy]
    refine ⟨fun h => ?_, fun h => ?_⟩
    · rw [ih.1 (by simpa using h)]
    · rw [ih.2 (by simpa using h)]; rfl

def rowD (ts : List Int) (i n : Nat) : List Int := (List.range n).map fun j => IntKind.i64.wrap (ts.getD i 0 - ts.getD j 0)
def pairsD (ts : List Int) (i : Nat) : List Int := (List.range i).flatMap fun k => rowD ts k k
theorem rowD_zero (ts : List Int) (i : Nat) : rowD ts i 0 = [] := rfl
theorem rowD_succ (ts : List Int) (i n : Nat) : rowD ts i (n + 1) = rowD ts i n ++ [IntKind.i64.wrap (ts.getD i 0 - ts.getD n 0)] := by
  simp only [rowD, List.range_succ, List.map_append, List.map_cons, List.map_nil]
theorem rowD_len (ts : List Int) (i n : Nat) : (rowD ts i n).length = n := by simp [rowD]
theorem pairsD_zero (ts : List Int) : pairsD ts 0 = [] := rfl
theorem pairsD_succ (ts : List Int) (i : Nat) : pairsD ts (i + 1) = pairsD ts i ++ rowD ts i i := by
  simp only [pairsD, List.range_succ, List.flatMap_append, List.flatMap_cons, List.flatMap_nil, List.append_nil]
theorem pairsD_len (ts : List Int) : ∀ i, i ≤ 13 → (pairsD ts i).length ≤ 13 * i
  | 0, _ => by simp [pairsD]
  | i + 1, h => by
    have := pairsD_len ts i (by omega)
    rw [pairsD_succ, List.length_append, rowD_len]; omega
theorem putI_len (l : List Int) (x : Int) : (putI l x).length ≤ l.length + 1 := by
  induction l with
  | nil => simp [putI]
  | cons y l ih =>
    unfold putI
    split
    · simp only [List.length_cons]; omega
    · split <;> simp
theorem putAll_len (ps : List Int) : (putAll ps).length ≤ ps.length := by
  have : ∀ (ps l : List Int), (ps.foldl putI l).length ≤ l.length + ps.length := by
    intro ps
    induction ps with
    | nil => intro l; simp
    | cons p ps ih =>
      intro l
      have := ih (putI l p)
      have := putI_len l p
      simp only [List.foldl_cons, List.length_cons]; omega
  simpa [putAll] using this ps []
theorem putAll_snoc (ps : List Int) (x : Int) : putAll (ps ++ [x]) = putI (putAll ps) x := by simp [putAll]
end Go.Eng
