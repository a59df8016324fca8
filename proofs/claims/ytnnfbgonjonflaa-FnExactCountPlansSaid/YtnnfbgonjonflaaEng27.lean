/- A part of the interpreter of Go code, and of the proof that it says what Go does; no condition. -/
import Derived.Test.YtnnfbgonjonflaaEng11
import Derived.Test.YtnnfbgonjonflaaEng23
import Derived.Deep.Slices
/-! Slices of bytes that a law is given. -/
set_option linter.unusedSimpArgs false
set_option linter.unusedVariables false
namespace Go.Eng
open Go.RowKit Go.WideShapes Go.ChangeShapes
variable {P : Program}
theorem int_list8 {n : Nat} {l : List Value} (h : LeavesOk (List.replicate n (.int .u8)) l) : ∃ xs : List Int, xs.length = n ∧ l = xs.map (.int .u8) ∧ ∀ x ∈ xs, (Lit.int .u8 x).wf = true := by
  induction n generalizing l with
  | zero => exact ⟨[], rfl, List.eq_nil_of_length_eq_zero (by simpa using h.1), fun x hx => by cases hx⟩
  | succ n ih =>
    cases l with
    | nil => have := h.1; simp at this
    | cons v l =>
      have h0 := h.2 0 (by simp)
      have hl : LeavesOk (List.replicate n (.int .u8)) l := ⟨by simpa using h.1, fun i hi => by simpa [List.replicate_succ] using h.2 (i + 1) (by simpa using hi)⟩
      obtain ⟨xs, h1, h2, h3⟩ := ih hl
      have h0' : leafOk (.int .u8) v := by simpa [List.replicate_succ] using h0
      cases v <;> simp only [leafOk] at h0'
      all_goals first | exact h0'.elim | skip
      rename_i k m
      obtain ⟨rfl, hw⟩ := h0'
      exact ⟨m :: xs, by simp [h1], by simp [h2], fun x hx => by
        rcases List.mem_cons.1 hx with rfl | hx
        · exact hw
        · exact h3 x hx⟩


section
variable {H : Type} {enc : TypeId × Value → H} {W : World} {base : Nat}
theorem ints_cells8 {es : Nat} {cs : List Value} (h : LeavesOk (List.replicate es (.int .u8)) cs) : ∀ i, i < es → ∃ x : Int, cs[i]? = some (.int .u8 x) ∧ (Lit.int .u8 x).wf = true := by
  intro i hi
  obtain ⟨xs, h1, h2, h3⟩ := int_list8 h
  subst h2
  have hi' : i < xs.length := by omega
  exact ⟨xs[i], by simp [hi'], h3 _ (List.getElem_mem hi')⟩

theorem slice_ints8 {t e n es : Nat} {v : Value} {d : DataW H} {ps : List MemPlace} (hu : P.underlying t = some (.slice e)) (hf : flatTys P n e = some (List.replicate es (.int .u8))) (hce : P.cellsOf e = es) (hes : 0 < es)
    (hv : Value.okWide P W .any base t v) (h : DataW.Trod enc P W 0 (fun _ => true) true t v d ps) :
    v = .slice none 0 0 ∨ ∃ (len : Nat) (l : List Int), l.length = len * es ∧ (∀ x ∈ l, (Lit.int .u8 x).wf = true) ∧ len ≤ maxLen ∧ ArgOk noB noH 0 W (.sl es len (.ints .u8 l)) v := by
  obtain ⟨a0, len, cap, rfl⟩ := okWide_slice hu hv
  obtain ⟨fuel, hx⟩ := h
  rcases Go.Deep.open_slice hu hx with ⟨h1, _⟩ | ⟨a, len', cap', m, nn, D, Pl, h1, _, hl, hm, hmm, _, hel⟩
  · left; simpa [Value.cells] using h1
  right
  simp only [Value.cells, List.cons.injEq, Value.slice.injEq, and_true] at h1
  obtain ⟨rfl, rfl, rfl⟩ := h1
  simp only [if_true] at hmm
  subst hmm
  have hcell : ∀ i, i < m * es → ∃ x : Int, W.cell? (a.add i) = some (.int .u8 x) ∧ (Lit.int .u8 x).wf = true := by
    intro i hi
    obtain ⟨cs', g1, g2⟩ := hel (i / es) (Nat.div_lt_of_lt_mul (by rwa [Nat.mul_comm] at hi))
    rw [hce] at g1
    obtain ⟨_, g3, g4⟩ := World.cells?_some g1
    have hm := Nat.mod_lt i hes
    obtain ⟨x, q1, q2⟩ := ints_cells8 ((flat_trod n).1 _ _ hf _ _ _ g2) (i % es) hm
    refine ⟨x, ?_, q2⟩
    have := g4 (i % es) hm
    rw [q1, Addr.add_add, Nat.mul_comm, Nat.div_add_mod] at this
    exact this
  obtain ⟨L, hL1, hL2⟩ := exists_list (m * es) hcell
  have hle : len * es ≤ m * es := Nat.mul_le_mul_right _ hl
  have hspot : a.spot = none ∧ ∃ C t fz, W.heap[a.block]? = some (.cells C t fz) := by
    simp only [Value.okWide, hu, Cell.okWide, Cell.ok] at hv
    obtain ⟨_, _, _, h2, row, cells, h3, _⟩ := hv
    refine ⟨h2, ?_⟩
    unfold World.shape? at h3
    split at h3
    · rename_i C t fz e; exact ⟨C, t, fz, e⟩
    · cases h3
  obtain ⟨hsp, C, t0, fz, hC⟩ := hspot
  obtain ⟨blk, off, spot⟩ := a
  simp only at hsp hC
  subst hsp
  have hget : ∀ i, i < m * es → C[off + i]? = some (.int .u8 (L.getD i 0)) := by
    intro i hi
    have hi' : i < L.length := by omega
    obtain ⟨g1, _⟩ := hL2 i L[i] (by simp [hi'])
    rw [Addr.add_lit] at g1
    obtain ⟨_, C', t', fz', g2, g3⟩ := cell_get g1
    rw [hC] at g2
    simp only [Option.some.injEq, Obj.cells.injEq] at g2
    obtain ⟨rfl, _, _⟩ := g2
    rw [g3]; simp [List.getD_eq_getElem?_getD, hi']
  refine ⟨len, L.take (len * es), by rw [List.length_take]; omega, fun x hx => ?_, by omega, ?_⟩
  · obtain ⟨i, hi, rfl⟩ := List.getElem_of_mem (List.mem_of_mem_take hx)
    exact (hL2 i _ (by simp [hi])).2
  refine ⟨hes, rfl, by simp only [Cel.ok]; rw [List.length_take]; omega, ?_⟩
  by_cases hm0 : m * es = 0
  · have hl0 : len * es = 0 := by omega
    have hlen0 : len = 0 := by rcases Nat.mul_eq_zero.1 hl0 with h | h <;> omega
    have hm0' : m = 0 := by rcases Nat.mul_eq_zero.1 hm0 with h | h <;> omega
    subst hlen0 hm0'
    exact ⟨⟨blk, 0, C.size⟩, C, t0, fz, hC, rfl, by simp, fun o ho => by simp at ho, .inr ⟨rfl, _, rfl⟩⟩
  · have hsz : off + m * es ≤ C.size := by
      have := hget (m * es - 1) (by omega)
      have h2 : off + (m * es - 1) < C.size := by
        rcases Nat.lt_or_ge (off + (m * es - 1)) C.size with h | h
        · exact h
        · rw [Array.getElem?_eq_none h] at this; cases this
      omega
    refine ⟨⟨blk, off, C.size⟩, C, t0, fz, hC, rfl, by simp only; omega, fun o ho => ?_, .inl ⟨m, rfl, hl, hsz⟩⟩
    rw [hget o (by omega)]
    have := getD_sub 0 L 0 (len * es) o ho
    simp only [List.drop_zero, Nat.zero_add] at this
    simp only [Cel.at, this]
theorem slice_law8 {t e n es : Nat} {v : Value} {d : DataW H} {ps : List MemPlace} (hu : P.underlying t = some (.slice e)) (hf : flatTys P n e = some (List.replicate es (.int .u8))) (hce : P.cellsOf e = es) (hes : 0 < es)
    (hv : Value.okWide P W .any base t v) (h : DataW.Trod enc P W 0 (fun _ => true) true t v d ps) :
    ∃ (len : Nat) (l : List Int) (dv : DV), ((dv = .nil ∧ l = [] ∧ len = 0) ∨ dv = .sl es len (.ints .u8 l)) ∧ l.length = len * es ∧ (len : Int) ≤ 9223372036854775807 ∧ ArgOk noB noH 0 W dv v := by
  rcases slice_ints8 hu hf hce hes hv h with rfl | ⟨len, l, h1, h2, h3, h4⟩
  · exact ⟨0, [], .nil, .inl ⟨rfl, rfl, rfl⟩, by simp, by simp, rfl⟩
  · exact ⟨len, l, _, .inr rfl, h1, by simp [maxLen] at h3; omega, h4⟩

theorem wf_u8 {l : List Int} (h : ∀ x ∈ l, (Lit.int .u8 x).wf = true) : u8s l := by
  intro x hx
  have h1 := h x hx
  simp only [Lit.wf, Bool.and_eq_true, decide_eq_true_eq] at h1
  have e1 : IntKind.u8.min = 0 := rfl
  have e2 : IntKind.u8.max = 255 := rfl
  rw [e1, e2] at h1; exact h1

/-- .. with what the bytes are. -/
theorem code_law {t e n : Nat} {v : Value} {d : DataW H} {ps : List MemPlace} (hu : P.underlying t = some (.slice e)) (hf : flatTys P n e = some (List.replicate 1 (.int .u8))) (hce : P.cellsOf e = 1)
    (hv : Value.okWide P W .any base t v) (h : DataW.Trod enc P W 0 (fun _ => true) true t v d ps) :
    ∃ (len : Nat) (l : List Int) (dv : DV), ((dv = .nil ∧ l = [] ∧ len = 0) ∨ dv = .sl 1 len (.ints .u8 l)) ∧ l.length = len * 1 ∧ (len : Int) ≤ 9223372036854775807 ∧ ArgOk noB noH 0 W dv v ∧ u8s l := by
  rcases slice_ints8 hu hf hce (by omega) hv h with rfl | ⟨len, l, h1, h2, h3, h4⟩
  · exact ⟨0, [], .nil, .inl ⟨rfl, rfl, rfl⟩, by simp, by simp, rfl, fun x hx => by cases hx⟩
  · exact ⟨len, l, _, .inr rfl, h1, by simp [maxLen] at h3; omega, h4, wf_u8 h2⟩
end
end Go.Eng
