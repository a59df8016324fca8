/- A part of the interpreter of Go code, and of the proof that it says what Go does; no condition. -/
import Derived.Test.YtjnolfmmlnnoeaaEng4
set_option linter.unusedSimpArgs false
set_option linter.unusedVariables false
namespace Go.Eng
variable {P : Program} {T : TT}

/-- What a piece of a run leaves of what was: from (β₀, H₀, nb₀, W₀) to (β, H, nb, w); 'lo': no block below it has been written. -/
structure Foot (W0 : World) (nb0 : Nat) (β0 : Be) (H0 : Hp) (lo : Nat) (β : Be) (H : Hp) (nb : Nat) (w : World) : Prop where
  size : W0.heap.size ≤ w.heap.size
  keep : ∀ j, j < W0.heap.size → (∀ b, lo ≤ b → b < nb0 → (β0 b).blk ≠ j) → w.heap[j]? = W0.heap[j]?
  new : ∀ b, b < nb → (b < nb0 ∧ β b = β0 b) ∨ W0.heap.size ≤ (β b).blk
  le : lo ≤ nb0
  ext : Ext β0 H0 nb0 β H nb
  same : Same W0 w

theorem Foot.refl (W : World) (nb : Nat) (β : Be) (H : Hp) : Foot W nb β H nb β H nb W :=
  ⟨Nat.le_refl _, fun _ _ _ => rfl, fun b hb => .inl ⟨hb, rfl⟩, Nat.le_refl _, Ext.refl _ _ _, Same.refl _⟩

theorem Foot.trans {W0 w1 w2 : World} {nb0 nb1 nb2 lo lo' : Nat} {β0 β1 β2 : Be} {H0 H1 H2 : Hp} (h : Foot W0 nb0 β0 H0 lo β1 H1 nb1 w1) (h' : Foot w1 nb1 β1 H1 lo' β2 H2 nb2 w2) :
    Foot W0 nb0 β0 H0 (Nat.min lo lo') β2 H2 nb2 w2 := by
  refine ⟨Nat.le_trans h.size h'.size, fun j hj hb => ?_, fun b hb => ?_, Nat.le_trans (Nat.min_le_left _ _) h.le, h.ext.trans h'.ext, h.same.trans h'.same⟩
  · have h1 := h.keep j hj (fun b hlo hlt => hb b (Nat.le_trans (Nat.min_le_left _ _) hlo) hlt)
    rw [← h1]
    refine h'.keep j (Nat.lt_of_lt_of_le hj h.size) fun b hlo hlt => ?_
    rcases h.new b hlt with ⟨h2, h3⟩ | h2
    · rw [h3]; exact hb b (Nat.le_trans (Nat.min_le_right _ _) hlo) h2
    · omega
  · rcases h'.new b hb with ⟨h2, h3⟩ | h2
    · rw [h3]; exact h.new b h2
    · exact .inr (Nat.le_trans h.size h2)

theorem Foot.lo_mono {W0 w : World} {nb0 nb lo lo' : Nat} {β0 β : Be} {H0 H : Hp} (h : Foot W0 nb0 β0 H0 lo β H nb w) (hl : lo' ≤ lo) : Foot W0 nb0 β0 H0 lo' β H nb w :=
  ⟨h.size, fun j hj hb => h.keep j hj fun b h1 h2 => hb b (Nat.le_trans hl h1) h2, h.new, Nat.le_trans hl h.le, h.ext, h.same⟩

theorem upd_same {α : Type} (f : Nat → α) (d : Nat) (v : α) : upd f d v d = v := by simp [upd]
theorem upd_ne {α : Type} (f : Nat → α) {d k : Nat} (v : α) (h : k ≠ d) : upd f d v k = f k := by
  have : Nat.beq k d = false := by
    cases h2 : Nat.beq k d
    · rfl
    · exact absurd (Nat.eq_of_beq_eq_true h2) h
  simp [upd, this]

theorem ObjOk.ext' {β β' : Be} {H H' : Hp} {nb nb' : Nat} {w : World} {b : Nat} (hb : b < nb) (e : Ext β H nb β' H' nb') (h1 : H' b = H b) (h2 : β' b = β b) (h3 : ∀ m, m < nb → isMap (H m) = true → H' m = H m ∧ β' m = β m) (h : ObjOk β H nb w b) : ObjOk β' H' nb' w b := by
  unfold ObjOk at *
  rw [h1]
  cases eb : H b <;> simp only [eb] at h ⊢
  · obtain ⟨C, t, fz, g1, g2, g3, g4, g5⟩ := h
    rw [h2]
    exact ⟨C, t, fz, g1, g2, g3, fun o ho => let ⟨v', q1, q2⟩ := g4 o ho; ⟨v', q1, q2.ext e⟩, g5⟩
  · obtain ⟨E, clk, g1, g2, g3, g4, g5⟩ := h
    rw [h2]
    exact ⟨E, clk, g1, g2, fun i hi => ⟨(g3 i hi).1.ext e, (g3 i hi).2.ext e⟩, g4, g5⟩
  · rename_i m n seen
    obtain ⟨s, l, S, g1, g2, g3, E, clk, g4, g5⟩ := h
    obtain ⟨q1, q2⟩ := h3 m g2 g3
    rw [h2, q2]
    exact ⟨s, l, S, g1, Nat.lt_of_lt_of_le g2 e.le, by rw [q1]; exact g3, E, clk, g4, g5⟩

theorem ext_alloc {β : Be} {H : Hp} {nb : Nat} (bl : Bl) (ob : AObj) : Ext β H nb (upd β nb bl) (upd H nb ob) (nb + 1) := by
  refine ⟨Nat.le_succ _, fun b hb => ?_⟩
  have hne : b ≠ nb := Nat.ne_of_lt hb
  unfold ObjExt
  rw [upd_ne _ _ hne, upd_ne _ _ hne]
  cases H b <;> simp

theorem keeps_alloc (w : World) (o : Obj) : Keeps w (w.alloc o) := by
  refine ⟨fun j hj => ?_, rfl, rfl, rfl⟩
  simp only [World.alloc]
  rw [Array.getElem?_push_lt hj, Array.getElem?_eq_getElem hj]

theorem alloc_last (w : World) (o : Obj) : (w.alloc o).heap[w.heap.size]? = some o := by simp only [World.alloc, Array.getElem?_push_size]

theorem Rel.alloc {β : Be} {H : Hp} {nb : Nat} {w : World} (R : Rel β H nb w) {C : List Value} {t : TypeId} {g : Nat → Value} (hg : ∀ i, i < C.length → RV β H nb (g i) (C.getD i undef)) :
    Rel (upd β nb ⟨w.heap.size, 0, C.length⟩) (upd H nb (.cells true C.length g)) (nb + 1) (w.alloc (.cells ⟨C⟩ t)) := by
  have e := ext_alloc (β := β) (H := H) (nb := nb) ⟨w.heap.size, 0, C.length⟩ (.cells true C.length g)
  refine ⟨fun b hb => ?_, fun b b' hb hb' hne ho hn => ?_⟩
  · rcases Nat.lt_or_ge b nb with hlt | hge
    · have hn : b ≠ nb := Nat.ne_of_lt hlt
      refine ObjOk.ext' hlt e (upd_ne _ _ hn) (upd_ne _ _ hn) (fun m hm _ => ⟨upd_ne _ _ (Nat.ne_of_lt hm), upd_ne _ _ (Nat.ne_of_lt hm)⟩) ?_
      exact ObjOk.keep (keeps_alloc _ _) R hlt
    · obtain rfl : b = nb := by omega
      unfold ObjOk
      rw [upd_same, upd_same]
      refine ⟨⟨C⟩, t, (0, 0), alloc_last _ _, by simp, by simp, fun o ho => ⟨C.getD o undef, ?_, (hg o ho).ext e⟩, fun _ => ⟨rfl, fun o _ h => by simp at h⟩⟩
      simp [List.getD_eq_getElem?_getD, ho]
  · rcases Nat.lt_or_ge b nb with hlt | hge
    · rcases Nat.lt_or_ge b' nb with hlt' | hge'
      · rw [upd_ne _ _ (Nat.ne_of_lt hlt), upd_ne _ _ (Nat.ne_of_lt hlt')]
        rw [upd_ne _ _ (Nat.ne_of_lt hlt)] at ho
        rw [upd_ne _ _ (Nat.ne_of_lt hlt')] at hn
        exact R.inj b b' hlt hlt' hne ho hn
      · obtain rfl : b' = nb := by omega
        rw [upd_ne _ _ (Nat.ne_of_lt hlt), upd_same]
        rw [upd_ne _ _ (Nat.ne_of_lt hlt)] at ho
        have := R.lt hlt (by cases e2 : H b <;> simp_all [isOwn, isNone])
        simp only; omega
    · obtain rfl : b = nb := by omega
      have hlt' : b' < b := by omega
      rw [upd_ne _ _ (Nat.ne_of_lt hlt'), upd_same]
      rw [upd_ne _ _ (Nat.ne_of_lt hlt')] at hn
      have := R.lt hlt' hn
      simp only; omega

theorem Foot.alloc {β : Be} {H : Hp} {nb : Nat} {w : World} (o : Obj) (ob : AObj) (n : Nat) : Foot w nb β H nb (upd β nb ⟨w.heap.size, 0, n⟩) (upd H nb ob) (nb + 1) (w.alloc o) := by
  refine ⟨by simp, fun j hj _ => (keeps_alloc _ _).heap j hj, fun b hb => ?_, Nat.le_refl _, ext_alloc _ _, rfl, rfl, rfl⟩
  rcases Nat.lt_or_ge b nb with hlt | hge
  · exact .inl ⟨hlt, upd_ne _ _ (Nat.ne_of_lt hlt)⟩
  · obtain rfl : b = nb := by omega
    rw [upd_same]; exact .inr (Nat.le_refl _)

/-! ### Writing cells -/

theorem setIfInBounds_mk (l : List Value) (i : Nat) (v : Value) : (⟨l⟩ : Array Value).setIfInBounds i v = ⟨l.set i v⟩ := by simp

theorem run_storeCells' (g off : Nat) (t : TypeId) (fz : Nat × Nat) : ∀ (vs : List Value) (i : Nat) (C : List Value) (w : World), w.heap[g]? = some (.cells ⟨C⟩ t fz) → off + i + vs.length ≤ C.length →
    (∀ o, o < C.length → ¬ (fz.1 ≤ o ∧ o < fz.2)) → (∀ v ∈ vs, isOne v = true) →
    (storeCells ⟨g, off, none⟩ vs i).run P w = .ok () { w with heap := w.heap.setIfInBounds g (.cells ⟨putCells C (off + i) vs⟩ t fz) }
  | [], i, C, w, hg, _, _, _ => by
    have hlt : g < w.heap.size := by
      rcases Nat.lt_or_ge g w.heap.size with h | h
      · exact h
      · rw [Array.getElem?_eq_none h] at hg; cases hg
    simp only [storeCells, Sem.run_pure, putCells]
    congr 1
    have : w.heap.setIfInBounds g (Obj.cells ⟨C⟩ t fz) = w.heap := by
      apply Array.ext_getElem?
      intro j
      by_cases e : g = j
      · subst e; rw [hg]; simp [hlt]
      · rw [Array.getElem?_setIfInBounds, if_neg e]
    rw [this]
  | v :: vs, i, C, w, hg, hle, hf, ho => by
    have hlt : g < w.heap.size := by
      rcases Nat.lt_or_ge g w.heap.size with h | h
      · exact h
      · rw [Array.getElem?_eq_none h] at hg; cases hg
    simp only [List.length_cons] at hle
    have hv := ho v (by simp)
    have hadd : (⟨g, off, none⟩ : Addr).add i = ⟨g, off + i, none⟩ := Addr.add_lit _ _ _
    have hcell : w.cell? ⟨g, off + i, none⟩ = some (C.getD (off + i) undef) := by
      have : off + i < C.length := by omega
      simp [World.cell?, hg, List.getD_eq_getElem?_getD, this]
    have hfr : w.frozen? ⟨g, off + i, none⟩ = false := by
      have := hf (off + i) (by omega)
      obtain ⟨f1, f2⟩ := fz
      simp only [World.frozen?, hg]
      by_cases h1 : f1 ≤ off + i
      · have h2 : ¬ (off + i < f2) := fun h2 => this ⟨h1, h2⟩
        simp [h2]
      · simp [h1]
    have hset : w.setCell ⟨g, off + i, none⟩ v = { w with heap := w.heap.setIfInBounds g (.cells ⟨C.set (off + i) v⟩ t fz) } := by
      unfold World.setCell
      congr 1
      apply Array.ext_getElem?
      intro j
      by_cases e : g = j
      · subst e
        have hgj : w.heap[g] = .cells ⟨C⟩ t fz := by rw [Array.getElem?_eq_getElem hlt] at hg; exact Option.some.inj hg
        simp [Array.getElem_modify, hgj, hlt]
      · simp [Array.getElem?_modify, Array.getElem?_setIfInBounds, e]
    have hrun : (store ⟨g, off + i, none⟩ v).run P w = .ok () (w.setCell ⟨g, off + i, none⟩ v) := by
      cases v <;> simp only [isOne] at hv <;> first | (cases hv; done) | simp [store, Sem.run, hcell, hfr]
    have hg' : (w.heap.setIfInBounds g (.cells ⟨C.set (off + i) v⟩ t fz))[g]? = some (.cells ⟨C.set (off + i) v⟩ t fz) := by simp [hlt]
    have ih := run_storeCells' g off t fz vs (i + 1) (C.set (off + i) v) { w with heap := w.heap.setIfInBounds g (.cells ⟨C.set (off + i) v⟩ t fz) } hg'
      (by simp; omega) (by simpa using hf) (fun x hx => ho x (by simp [hx]))
    simp only [storeCells, hadd, Sem.run_bind, hrun, Result.andThen_ok, hset, ih, putCells]
    congr 2
    apply Array.ext_getElem?
    intro j
    by_cases e : g = j
    · subst e; simp [hlt, Nat.add_assoc]
    · simp [Array.getElem?_setIfInBounds, e]

theorem isOne_of {β : Be} {H : Hp} {nb : Nat} {v v' : Value} (h : RV β H nb v v') (h1 : isOne v = true) : isOne v' = true := by
  cases h <;> first | rfl | (simp [isOne] at h1)

theorem putCells_getD : ∀ (cs l : List Value) (off i : Nat), off + cs.length ≤ l.length → (putCells l off cs).getD i undef = if off ≤ i ∧ i < off + cs.length then cs.getD (i - off) undef else l.getD i undef
  | [], l, off, i, _ => by
    rw [if_neg (by simp only [List.length_nil]; omega)]; rfl
  | c :: cs, l, off, i, h => by
    simp only [List.length_cons] at h
    rw [putCells, putCells_getD cs _ _ _ (by simp; omega)]
    by_cases h1 : off + 1 ≤ i ∧ i < off + 1 + cs.length
    · rw [if_pos h1, if_pos (by simp; omega)]
      rw [show i - off = (i - (off + 1)) + 1 from by omega]
      simp
    · rw [if_neg h1]
      by_cases h2 : i = off
      · subst h2
        rw [if_pos (by simp only [List.length_cons]; omega)]
        simp [List.getD_eq_getElem?_getD, show i < l.length from by omega]
      · rw [if_neg (by simp; omega)]
        simp [List.getD_eq_getElem?_getD, List.getElem?_set, Ne.symm h2]

theorem setCells_at : ∀ (cs : List Value) (g : Nat → Value) (off i : Nat), setCells g off cs i = if off ≤ i ∧ i < off + cs.length then cs.getD (i - off) undef else g i
  | [], g, off, i => by
    rw [if_neg (by simp only [List.length_nil]; omega)]; rfl
  | c :: cs, g, off, i => by
    rw [setCells, setCells_at cs]
    simp only [List.length_cons]
    by_cases h1 : off + 1 ≤ i ∧ i < off + 1 + cs.length
    · rw [if_pos h1, if_pos (by omega)]
      rw [show i - off = (i - (off + 1)) + 1 from by omega]
      simp
    · rw [if_neg h1]
      by_cases h2 : i = off
      · subst h2; rw [if_pos (by omega), upd_same]; simp
      · rw [if_neg (by omega), upd_ne _ _ h2]

theorem ext_write {β : Be} {H : Hp} {nb b n : Nat} {own own' : Bool} {g g' : Nat → Value} (e : H b = .cells own n g) : Ext β H nb β (upd H b (.cells own' n g')) nb := by
  refine ⟨Nat.le_refl _, fun c hc => ?_⟩
  unfold ObjExt
  by_cases h : c = b
  · subst h; rw [e, upd_same]; simp
  · rw [upd_ne _ _ h]; cases H c <;> simp

/-- The cells of one block of the run's own have been written. -/
theorem Rel.write {β : Be} {H : Hp} {nb : Nat} {w : World} (R : Rel β H nb w) {b n : Nat} {g g' : Nat → Value} (hb : b < nb) (e : H b = .cells true n g) {C' : List Value} {t : TypeId} {fz : Nat × Nat}
    (hC : ∃ C t0, w.heap[(β b).blk]? = some (.cells ⟨C⟩ t fz) ∧ t0 = t ∧ C.length = C'.length) (hf : ∀ o, o < C'.length → ¬ (fz.1 ≤ o ∧ o < fz.2)) (hn : n ≤ C'.length)
    (hg : ∀ i, i < n → RV β H nb (g' i) (C'.getD i undef)) :
    Rel β (upd H b (.cells true n g')) nb { w with heap := w.heap.setIfInBounds (β b).blk (.cells ⟨C'⟩ t fz) } ∧
    Foot w nb β H b β (upd H b (.cells true n g')) nb { w with heap := w.heap.setIfInBounds (β b).blk (.cells ⟨C'⟩ t fz) } := by
  have ex := ext_write (β := β) (nb := nb) (own' := true) (g' := g') e
  have hlt := R.lt hb (by rw [e]; rfl)
  obtain ⟨C, _, hC1, _, hC2⟩ := hC
  have hob := R.objs b hb
  unfold ObjOk at hob
  simp only [e] at hob
  obtain ⟨C0, t0, fz0, q1, q2, q3, q4, q5⟩ := hob
  rw [hC1] at q1
  simp only [Option.some.injEq, Obj.cells.injEq] at q1
  obtain ⟨rfl, rfl, rfl⟩ := q1
  have q6 := q5 (by trivial)
  refine ⟨⟨fun c hc => ?_, fun c c' hc hc' hne ho hnn => ?_⟩, by simp, fun j hj hk => ?_, fun c hc => .inl ⟨hc, rfl⟩, Nat.le_of_lt hb, ex, rfl, rfl, rfl⟩
  · by_cases h : c = b
    · subst h
      unfold ObjOk
      rw [upd_same]
      refine ⟨⟨C'⟩, t, fz, by simp [hlt], by simp [← hC2, ← q2], by rw [q6.1]; simp; omega, fun o ho => ⟨C'.getD o undef, ?_, (hg o ho).ext ex⟩, fun _ => ⟨q6.1, by simpa using hf⟩⟩
      have : o < C'.length := by omega
      simp [q6.1, List.getD_eq_getElem?_getD, this]
    · have h0 := R.objs c hc
      have hw : ObjOk β H nb { w with heap := w.heap.setIfInBounds (β b).blk (.cells ⟨C'⟩ t fz) } c := by
        have hne : ∀ c', c' < nb → c' ≠ b → isNone (H c') = false → (β b).blk ≠ (β c').blk := fun c' hc' hne hnn => R.inj b c' hb hc' (Ne.symm hne) (by rw [e]; rfl) hnn
        unfold ObjOk at h0 ⊢
        cases ec : H c <;> simp only [ec] at h0 ⊢
        · have := hne c hc h (by rw [ec]; rfl)
          rw [Array.getElem?_setIfInBounds, if_neg this]; exact h0
        · have := hne c hc h (by rw [ec]; rfl)
          rw [Array.getElem?_setIfInBounds, if_neg this]; exact h0
        · have := hne c hc h (by rw [ec]; rfl)
          rename_i m nn seen
          obtain ⟨s, l, S, g1, g2, g3, E, clk, g4, g5⟩ := h0
          have hm : m ≠ b := fun he => by rw [he, e] at g3; simp [isMap] at g3
          have := hne m g2 hm (by cases e2 : H m <;> simp_all [isMap, isNone])
          refine ⟨s, l, S, ?_, g2, g3, E, clk, ?_, g5⟩
          · rw [Array.getElem?_setIfInBounds, if_neg (by assumption)]; exact g1
          · rw [Array.getElem?_setIfInBounds, if_neg this]; exact g4
      refine ObjOk.ext' hc ex (upd_ne _ _ h) rfl (fun m hm hmm => ⟨upd_ne _ _ (fun he => ?_), rfl⟩) hw
      rw [he, e] at hmm; simp [isMap] at hmm
  · have h1 : ∀ c, isOwn (upd H b (.cells true n g') c) = true → isOwn (H c) = true := fun c => by
      by_cases h : c = b
      · subst h; rw [e]; intro _; rfl
      · rw [upd_ne _ _ h]; exact id
    have h2 : ∀ c, isNone (upd H b (.cells true n g') c) = false → isNone (H c) = false := fun c => by
      by_cases h : c = b
      · subst h; rw [e]; intro _; rfl
      · rw [upd_ne _ _ h]; exact id
    exact R.inj c c' hc hc' hne (h1 c ho) (h2 c' hnn)
  · have := hk b (Nat.le_refl _) hb
    simp only
    rw [Array.getElem?_setIfInBounds, if_neg this]

end Go.Eng
