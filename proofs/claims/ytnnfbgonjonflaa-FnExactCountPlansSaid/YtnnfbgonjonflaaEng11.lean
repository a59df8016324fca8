/- A part of the interpreter of Go code, and of the proof that it says what Go does; no condition. -/
import Derived.Test.YtnnfbgonjonflaaEng10
import Derived.Deep.Slices
/-! Slices that a law is given. -/
set_option linter.unusedSimpArgs false
set_option linter.unusedVariables false
namespace Go.Eng
open Go.RowKit Go.WideShapes Go.ChangeShapes
variable {Fb : Nat}
variable {P : Program}

def noB : Be := fun _ => ⟨0, 0, 0⟩

theorem law_deep {E : Env} (hE : EnvOk P E) {f : Nat} {fn : Func} (hf : P.funcs[f]? = some fn) {ds : List DV} {vs : List Value} {W : World} (F : Floor Fb noB noH 0 W) (hds : ArgsOk noB noH 0 W ds vs)
    (h : abody E fn (inV ds 0) (inH ds 0) (inN ds 0) fun r _ _ lo => r = .bool true ∧ Nat.ble (inN ds 0) lo = true) : Calls P f ⟨vs⟩ W fun e W' => e = .returned (.bool true) ∧ RowKit.Below W.heap.size W W' := by
  obtain ⟨β1, g1, g2⟩ := local_rel ds vs 0 hds
  have R1 : Rel Fb β1 (inH ds 0) (inN ds 0) W := ⟨fun b hb => (g1 b (Nat.zero_le _) hb).1, fun b b' hb _ _ ho _ => (by
    obtain ⟨n, g, h3⟩ := (g1 b (Nat.zero_le _) hb).2
    rw [h3] at ho; cases ho), F.none fun b hb => by
    obtain ⟨n, g, h3⟩ := (g1 b (Nat.zero_le _) hb).2
    rw [h3]; rfl⟩
  refine law_calls hE hf R1 g2 ?_
  have e : (fun r (_ : Hp) (_ : Nat) lo => r = Value.bool true ∧ Nat.ble (inN ds 0) lo = true) = fun r _ _ lo => r = .bool true ∧ inN ds 0 ≤ lo := by
    funext r _ _ lo; simp
  rw [← e]; exact h

section
variable {H : Type} {enc : TypeId × Value → H} {W : World} {base : Nat}

theorem ints_cells {es : Nat} {cs : List Value} (h : LeavesOk (List.replicate es (.int .i64)) cs) : ∀ i, i < es → ∃ x : Int, cs[i]? = some (.int .i64 x) ∧ (Lit.int .i64 x).wf = true := by
  intro i hi
  obtain ⟨xs, h1, h2, h3⟩ := int_list h
  subst h2
  have hi' : i < xs.length := by omega
  exact ⟨xs[i], by simp [hi'], h3 _ (List.getElem_mem hi')⟩

theorem exists_list {α : Type} {p : Nat → α → Prop} : ∀ (n : Nat), (∀ i, i < n → ∃ x, p i x) → ∃ l : List α, l.length = n ∧ ∀ i x, l[i]? = some x → p i x
  | 0, _ => ⟨[], rfl, fun i x h => by simp at h⟩
  | n + 1, h => by
    obtain ⟨l, h1, h2⟩ := exists_list n fun i hi => h i (by omega)
    obtain ⟨x, hx⟩ := h n (Nat.lt_succ_self _)
    refine ⟨l ++ [x], by simp [h1], fun i y hy => ?_⟩
    rcases Nat.lt_or_ge i l.length with h3 | h3
    · rw [List.getElem?_append_left h3] at hy; exact h2 i y hy
    · rw [List.getElem?_append_right h3] at hy
      have : i - l.length = 0 := by
        rcases Nat.eq_zero_or_pos (i - l.length) with h4 | h4
        · exact h4
        · rw [List.getElem?_eq_none (by simp; omega)] at hy; cases hy
      rw [this] at hy
      obtain rfl : x = y := by simpa using hy
      rw [show i = n from by omega]; exact hx

theorem cell_get {a : Addr} {v : Value} (h : W.cell? a = some v) : a.spot = none ∧ ∃ C t fz, W.heap[a.block]? = some (.cells C t fz) ∧ C[a.off]? = some v := by
  unfold World.cell? at h
  split at h
  · rename_i C t fz e
    split at h
    · cases h
    · rename_i hs
      exact ⟨by simpa using hs, C, t, fz, e, h⟩
  · cases h

/-- A slice of integers, or of rows of integers. -/
theorem slice_ints {t e n es : Nat} {v : Value} {d : DataW H} {ps : List MemPlace} (hu : P.underlying t = some (.slice e)) (hf : flatTys P n e = some (List.replicate es (.int .i64))) (hce : P.cellsOf e = es) (hes : 0 < es)
    (hv : Value.okWide P W .any base t v) (h : DataW.Trod enc P W 0 (fun _ => true) true t v d ps) :
    v = .slice none 0 0 ∨ ∃ (len : Nat) (l : List Int), l.length = len * es ∧ (∀ x ∈ l, (Lit.int .i64 x).wf = true) ∧ len ≤ maxLen ∧ ArgOk noB noH 0 W (.sl es len (.ints .i64 l)) v := by
  obtain ⟨a0, len, cap, rfl⟩ := okWide_slice hu hv
  obtain ⟨fuel, hx⟩ := h
  rcases Go.Deep.open_slice hu hx with ⟨h1, _⟩ | ⟨a, len', cap', m, nn, D, Pl, h1, _, hl, hm, hmm, _, hel⟩
  · left; simpa [Value.cells] using h1
  right
  simp only [Value.cells, List.cons.injEq, Value.slice.injEq, and_true] at h1
  obtain ⟨rfl, rfl, rfl⟩ := h1
  simp only [if_true] at hmm
  subst hmm
  have hcell : ∀ i, i < m * es → ∃ x : Int, W.cell? (a.add i) = some (.int .i64 x) ∧ (Lit.int .i64 x).wf = true := by
    intro i hi
    obtain ⟨cs', g1, g2⟩ := hel (i / es) (Nat.div_lt_of_lt_mul (by rwa [Nat.mul_comm] at hi))
    rw [hce] at g1
    obtain ⟨_, g3, g4⟩ := World.cells?_some g1
    have hm := Nat.mod_lt i hes
    obtain ⟨x, q1, q2⟩ := ints_cells ((flat_trod n).1 _ _ hf _ _ _ g2) (i % es) hm
    refine ⟨x, ?_, q2⟩
    have := g4 (i % es) hm
    rw [q1, Addr.add_add, Nat.mul_comm, Nat.div_add_mod] at this
    exact this
  obtain ⟨L, hL1, hL2⟩ := exists_list (m * es) hcell
  have hle : len * es ≤ m * es := Nat.mul_le_mul_right _ hl
  have hspot : a.spot = none ∧ ∃ C t fz, W.heap[a.block]? = some (.cells C t fz) := by
    simp only [Value.okWide, hu, Cell.okWide, Cell.ok] at hv
    obtain ⟨_, _, _, h2, row, cells, h3, _⟩ := hv
    refine ⟨h2, ?_⟩
    unfold World.shape? at h3
    split at h3
    · rename_i C t fz e; exact ⟨C, t, fz, e⟩
    · cases h3
  obtain ⟨hsp, C, t0, fz, hC⟩ := hspot
  obtain ⟨blk, off, spot⟩ := a
  simp only at hsp hC
  subst hsp
  have hget : ∀ i, i < m * es → C[off + i]? = some (.int .i64 (L.getD i 0)) := by
    intro i hi
    have hi' : i < L.length := by omega
    obtain ⟨g1, _⟩ := hL2 i L[i] (by simp [hi'])
    rw [Addr.add_lit] at g1
    obtain ⟨_, C', t', fz', g2, g3⟩ := cell_get g1
    rw [hC] at g2
    simp only [Option.some.injEq, Obj.cells.injEq] at g2
    obtain ⟨rfl, _, _⟩ := g2
    rw [g3]; simp [List.getD_eq_getElem?_getD, hi']
  refine ⟨len, L.take (len * es), by rw [List.length_take]; omega, fun x hx => ?_, by omega, ?_⟩
  · obtain ⟨i, hi, rfl⟩ := List.getElem_of_mem (List.mem_of_mem_take hx)
    exact (hL2 i _ (by simp [hi])).2
  refine ⟨hes, rfl, by simp only [Cel.ok]; rw [List.length_take]; omega, ?_⟩
  by_cases hm0 : m * es = 0
  · have hl0 : len * es = 0 := by omega
    have hlen0 : len = 0 := by rcases Nat.mul_eq_zero.1 hl0 with h | h <;> omega
    have hm0' : m = 0 := by rcases Nat.mul_eq_zero.1 hm0 with h | h <;> omega
    subst hlen0 hm0'
    exact ⟨⟨blk, 0, C.size⟩, C, t0, fz, hC, rfl, by simp, fun o ho => by simp at ho, .inr ⟨rfl, _, rfl⟩⟩
  · have hsz : off + m * es ≤ C.size := by
      have := hget (m * es - 1) (by omega)
      have h2 : off + (m * es - 1) < C.size := by
        rcases Nat.lt_or_ge (off + (m * es - 1)) C.size with h | h
        · exact h
        · rw [Array.getElem?_eq_none h] at this; cases this
      omega
    refine ⟨⟨blk, off, C.size⟩, C, t0, fz, hC, rfl, by simp only; omega, fun o ho => ?_, .inl ⟨m, rfl, hl, hsz⟩⟩
    rw [hget o (by omega)]
    have := getD_sub 0 L 0 (len * es) o ho
    simp only [List.drop_zero, Nat.zero_add] at this
    simp only [Cel.at, this]
/-- A slice of integers, nil or not, as a law is given it. -/
theorem slice_law {t e n es : Nat} {v : Value} {d : DataW H} {ps : List MemPlace} (hu : P.underlying t = some (.slice e)) (hf : flatTys P n e = some (List.replicate es (.int .i64))) (hce : P.cellsOf e = es) (hes : 0 < es)
    (hv : Value.okWide P W .any base t v) (h : DataW.Trod enc P W 0 (fun _ => true) true t v d ps) :
    ∃ (len : Nat) (l : List Int) (dv : DV), ((dv = .nil ∧ l = [] ∧ len = 0) ∨ dv = .sl es len (.ints .i64 l)) ∧ l.length = len * es ∧ (len : Int) ≤ 9223372036854775807 ∧ ArgOk noB noH 0 W dv v := by
  rcases slice_ints hu hf hce hes hv h with rfl | ⟨len, l, h1, h2, h3, h4⟩
  · exact ⟨0, [], .nil, .inl ⟨rfl, rfl, rfl⟩, by simp, by simp, rfl⟩
  · exact ⟨len, l, _, .inr rfl, h1, by simp [maxLen] at h3; omega, h4⟩
end

end Go.Eng
