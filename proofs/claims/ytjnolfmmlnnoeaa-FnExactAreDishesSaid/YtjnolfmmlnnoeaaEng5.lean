/- A part of the interpreter of Go code, and of the proof that it says what Go does; no condition. -/
import Derived.Test.YtjnolfmmlnnoeaaEng4
set_option linter.unusedSimpArgs false
set_option linter.unusedVariables false
namespace Go.Eng
variable {P : Program} {T : TT}

/-- What a piece of a run leaves of what was: from (β₀, H₀, nb₀, W₀) to (β, H, nb, w); 'lo': no block below it has been written. -/
structure Foot (W0 : World) (nb0 : Nat) (β0 : Be) (H0 : Hp) (lo : Nat) (β : Be) (H : Hp) (nb : Nat) (w : World) : Prop where
  size : W0.heap.size ≤ w.heap.size
  keep : ∀ j, j < W0.heap.size → (∀ b, lo ≤ b → b < nb0 → (β0 b).blk ≠ j) → w.heap[j]? = W0.heap[j]?
  new : ∀ b, b < nb → (b < nb0 ∧ β b = β0 b) ∨ W0.heap.size ≤ (β b).blk
  le : lo ≤ nb0
  ext : Ext β0 H0 nb0 β H nb
  same : Same W0 w

theorem Foot.refl (W : World) (nb : Nat) (β : Be) (H : Hp) : Foot W nb β H nb β H nb W :=
  ⟨Nat.le_refl _, fun _ _ _ => rfl, fun b hb => .inl ⟨hb, rfl⟩, Nat.le_refl _, Ext.refl _ _ _, Same.refl _⟩

theorem Foot.trans {W0 w1 w2 : World} {nb0 nb1 nb2 lo lo' : Nat} {β0 β1 β2 : Be} {H0 H1 H2 : Hp} (h : Foot W0 nb0 β0 H0 lo β1 H1 nb1 w1) (h' : Foot w1 nb1 β1 H1 lo' β2 H2 nb2 w2) :
    Foot W0 nb0 β0 H0 (Nat.min lo lo') β2 H2 nb2 w2 := by
  refine ⟨Nat.le_trans h.size h'.size, fun j hj hb => ?_, fun b hb => ?_, Nat.le_trans (Nat.min_le_left _ _) h.le, h.ext.trans h'.ext, h.same.trans h'.same⟩
  · have h1 := h.keep j hj (fun b hlo hlt => hb b (Nat.le_trans (Nat.min_le_left _ _) hlo) hlt)
    rw [← h1]
    refine h'.keep j (Nat.lt_of_lt_of_le hj h.size) fun b hlo hlt => ?_
    rcases h.new b hlt with ⟨h2, h3⟩ | h2
    · rw [h3]; exact hb b (Nat.le_trans (Nat.min_le_right _ _) hlo) h2
    · omega
  · rcases h'.new b hb with ⟨h2, h3⟩ | h2
    · rw [h3]; exact h.new b h2
    · exact .inr (Nat.le_trans h.size h2)

theorem Foot.lo_mono {W0 w : World} {nb0 nb lo lo' : Nat} {β0 β : Be} {H0 H : Hp} (h : Foot W0 nb0 β0 H0 lo β H nb w) (hl : lo' ≤ lo) : Foot W0 nb0 β0 H0 lo' β H nb w :=
  ⟨h.size, fun j hj hb => h.keep j hj fun b h1 h2 => hb b (Nat.le_trans hl h1) h2, h.new, Nat.le_trans hl h.le, h.ext, h.same⟩

theorem upd_same {α : Type} (f : Nat → α) (d : Nat) (v : α) : upd f d v d = v := by simp [upd]
theorem upd_ne {α : Type} (f : Nat → α) {d k : Nat} (v : α) (h : k ≠ d) : upd f d v k = f k := by
  have : Nat.beq k d = false := by
    cases h2 : Nat.beq k d
    · rfl
    · exact absurd (Nat.eq_of_beq_eq_true h2) h
  simp [upd, this]

theorem ObjOk.ext' {β β' : Be} {H H' : Hp} {nb nb' : Nat} {w : World} {b : Nat} (hb : b < nb) (e : Ext β H nb β' H' nb') (h1 : H' b = H b) (h2 : β' b = β b) (h3 : ∀ m, m < nb → isMap (H m) = true → H' m = H m ∧ β' m = β m) (h : ObjOk β H nb w b) : ObjOk β' H' nb' w b := by
  unfold ObjOk at *
  rw [h1]
  cases eb : H b <;> simp only [eb] at h ⊢
  · obtain ⟨C, t, fz, g1, g2, g3, g4, g5, g6⟩ := h
    rw [h2]
    exact ⟨C, t, fz, g1, g2, g3, fun o ho => let ⟨v', q1, q2⟩ := g4 o ho; ⟨v', q1, q2.ext e⟩, g5, g6⟩
  · obtain ⟨E, clk, g1, ⟨g2, g3, g4, g5⟩, g6⟩ := h
    rw [h2]
    exact ⟨E, clk, g1, ⟨g2, fun i hi => ⟨(g3 i hi).1.ext e, (g3 i hi).2.ext e⟩, g4, g5⟩, g6⟩
  · rename_i m n seen
    obtain ⟨s, l, S, g1, g2, g3, E, clk, g4, g5⟩ := h
    obtain ⟨q1, q2⟩ := h3 m g2 g3
    rw [h2, q2]
    exact ⟨s, l, S, g1, Nat.lt_of_lt_of_le g2 e.le, by rw [q1]; exact g3, E, clk, g4, g5⟩

theorem ext_alloc {β : Be} {H : Hp} {nb : Nat} (bl : Bl) (ob : AObj) : Ext β H nb (upd β nb bl) (upd H nb ob) (nb + 1) := by
  refine ⟨Nat.le_succ _, fun b hb => ?_⟩
  have hne : b ≠ nb := Nat.ne_of_lt hb
  unfold ObjExt
  rw [upd_ne _ _ hne, upd_ne _ _ hne]
  cases H b <;> simp

theorem keeps_alloc (w : World) (o : Obj) : Keeps w (w.alloc o) := by
  refine ⟨fun j hj => ?_, rfl, rfl, rfl⟩
  simp only [World.alloc]
  rw [Array.getElem?_push_lt hj, Array.getElem?_eq_getElem hj]

theorem alloc_last (w : World) (o : Obj) : (w.alloc o).heap[w.heap.size]? = some o := by simp only [World.alloc, Array.getElem?_push_size]

theorem Rel.alloc {β : Be} {H : Hp} {nb : Nat} {w : World} (R : Rel β H nb w) {C : List Value} {t : TypeId} {n : Nat} {fl : Bool} {g : Cel} (hn : n ≤ C.length) (hg : ∀ i, i < n → RV β H nb (g i) (C.getD i undef)) (hfl : (fl = true → ∀ i, i < n → flat0 (g i) = true) ∧ g.ok n) :
    Rel (upd β nb ⟨w.heap.size, 0, C.length⟩) (upd H nb (.cells true fl n g)) (nb + 1) (w.alloc (.cells ⟨C⟩ t)) := by
  have e := ext_alloc (β := β) (H := H) (nb := nb) ⟨w.heap.size, 0, C.length⟩ (.cells true fl n g)
  refine ⟨fun b hb => ?_, fun b b' hb hb' hne ho hn => ?_⟩
  · rcases Nat.lt_or_ge b nb with hlt | hge
    · have hn : b ≠ nb := Nat.ne_of_lt hlt
      refine ObjOk.ext' hlt e (upd_ne _ _ hn) (upd_ne _ _ hn) (fun m hm _ => ⟨upd_ne _ _ (Nat.ne_of_lt hm), upd_ne _ _ (Nat.ne_of_lt hm)⟩) ?_
      exact ObjOk.keep (keeps_alloc _ _) R hlt
    · obtain rfl : b = nb := by omega
      unfold ObjOk
      rw [upd_same, upd_same]
      refine ⟨⟨C⟩, t, (0, 0), alloc_last _ _, by simp, by simpa using hn, fun o ho => ⟨C.getD o undef, ?_, (hg o ho).ext e⟩, fun _ => ⟨rfl, fun o _ h => by simp at h⟩, hfl⟩
      have : o < C.length := by omega
      simp [List.getD_eq_getElem?_getD, this]
  · rcases Nat.lt_or_ge b nb with hlt | hge
    · rcases Nat.lt_or_ge b' nb with hlt' | hge'
      · rw [upd_ne _ _ (Nat.ne_of_lt hlt), upd_ne _ _ (Nat.ne_of_lt hlt')]
        rw [upd_ne _ _ (Nat.ne_of_lt hlt)] at ho
        rw [upd_ne _ _ (Nat.ne_of_lt hlt')] at hn
        exact R.inj b b' hlt hlt' hne ho hn
      · obtain rfl : b' = nb := by omega
        rw [upd_ne _ _ (Nat.ne_of_lt hlt), upd_same]
        rw [upd_ne _ _ (Nat.ne_of_lt hlt)] at ho
        have := R.lt hlt (by cases e2 : H b <;> simp_all [isOwn, isNone])
        simp only; omega
    · obtain rfl : b = nb := by omega
      have hlt' : b' < b := by omega
      rw [upd_ne _ _ (Nat.ne_of_lt hlt'), upd_same]
      rw [upd_ne _ _ (Nat.ne_of_lt hlt')] at hn
      have := R.lt hlt' hn
      simp only; omega

/-- A slice's own block has grown, and lies elsewhere now. -/
theorem Rel.regrow {β : Be} {H : Hp} {nb : Nat} {w : World} (R : Rel β H nb w) {b n n' : Nat} {own fl fl' : Bool} {g g' : Cel} (hb : b < nb) (eb : H b = .cells own fl n g) (hlt : n < n') {C : List Value} {t : TypeId} (hn : n' ≤ C.length)
    (hg : ∀ i, i < n' → RV β H nb (g' i) (C.getD i undef)) (hfl : (fl' = true → ∀ i, i < n' → flat0 (g' i) = true) ∧ g'.ok n') :
    Rel (upd β b ⟨w.heap.size, 0, C.length⟩) (upd H b (.cells true fl' n' g')) nb (w.alloc (.cells ⟨C⟩ t)) ∧
    Foot w nb β H b (upd β b ⟨w.heap.size, 0, C.length⟩) (upd H b (.cells true fl' n' g')) nb (w.alloc (.cells ⟨C⟩ t)) := by
  have ex : Ext β H nb (upd β b ⟨w.heap.size, 0, C.length⟩) (upd H b (.cells true fl' n' g')) nb := by
    refine ⟨Nat.le_refl _, fun c hc => ?_⟩
    unfold ObjExt
    by_cases h : c = b
    · subst h; rw [eb, upd_same]; exact ⟨by omega, fun h => by omega⟩
    · rw [upd_ne _ _ h, upd_ne _ _ h]; cases H c <;> simp
  have hnm : ∀ m, isMap (H m) = true → m ≠ b := fun m hm he => by rw [he, eb] at hm; simp [isMap] at hm
  refine ⟨⟨fun c hc => ?_, fun c c' hc hc' hne ho hnn => ?_⟩, by simp, fun j hj _ => (keeps_alloc _ _).heap j hj, fun c hc => ?_, Nat.le_of_lt hb, ex, rfl, rfl, rfl⟩
  · by_cases h : c = b
    · subst h
      unfold ObjOk
      rw [upd_same, upd_same]
      refine ⟨⟨C⟩, t, (0, 0), alloc_last _ _, by simp, by simpa using hn, fun o ho => ⟨C.getD o undef, ?_, (hg o ho).ext ex⟩, fun _ => ⟨rfl, fun o _ h => by simp at h⟩, hfl⟩
      have : o < C.length := by omega
      simp [List.getD_eq_getElem?_getD, this]
    · exact ObjOk.ext' hc ex (upd_ne _ _ h) (upd_ne _ _ h) (fun m hm hmm => ⟨upd_ne _ _ (hnm m hmm), upd_ne _ _ (hnm m hmm)⟩) (ObjOk.keep (keeps_alloc _ _) R hc)
  · by_cases h : c = b
    · subst h
      have h' : c' ≠ c := Ne.symm hne
      rw [upd_same, upd_ne _ _ h']
      rw [upd_ne _ _ h'] at hnn
      have := R.lt hc' hnn
      simp only; omega
    · rw [upd_ne _ _ h] at ho ⊢
      by_cases h' : c' = b
      · subst h'
        rw [upd_same]
        have := R.lt hc (by cases e2 : H c <;> simp_all [isOwn, isNone])
        simp only; omega
      · rw [upd_ne _ _ h'] at hnn ⊢
        exact R.inj c c' hc hc' hne ho hnn
  · by_cases h : c = b
    · subst h; rw [upd_same]; exact .inr (Nat.le_refl _)
    · exact .inl ⟨hc, upd_ne _ _ h⟩

theorem Foot.alloc {β : Be} {H : Hp} {nb : Nat} {w : World} (o : Obj) (ob : AObj) (n : Nat) : Foot w nb β H nb (upd β nb ⟨w.heap.size, 0, n⟩) (upd H nb ob) (nb + 1) (w.alloc o) := by
  refine ⟨by simp, fun j hj _ => (keeps_alloc _ _).heap j hj, fun b hb => ?_, Nat.le_refl _, ext_alloc _ _, rfl, rfl, rfl⟩
  rcases Nat.lt_or_ge b nb with hlt | hge
  · exact .inl ⟨hlt, upd_ne _ _ (Nat.ne_of_lt hlt)⟩
  · obtain rfl : b = nb := by omega
    rw [upd_same]; exact .inr (Nat.le_refl _)

/-! ### Writing cells -/

theorem setIfInBounds_mk (l : List Value) (i : Nat) (v : Value) : (⟨l⟩ : Array Value).setIfInBounds i v = ⟨l.set i v⟩ := by simp

theorem run_storeCells' (g off : Nat) (t : TypeId) (fz : Nat × Nat) : ∀ (vs : List Value) (i : Nat) (C : List Value) (w : World), w.heap[g]? = some (.cells ⟨C⟩ t fz) → off + i + vs.length ≤ C.length →
    (∀ o, o < C.length → ¬ (fz.1 ≤ o ∧ o < fz.2)) → (∀ v ∈ vs, isOne v = true) →
    (storeCells ⟨g, off, none⟩ vs i).run P w = .ok () { w with heap := w.heap.setIfInBounds g (.cells ⟨putCells C (off + i) vs⟩ t fz) }
  | [], i, C, w, hg, _, _, _ => by
    have hlt : g < w.heap.size := by
      rcases Nat.lt_or_ge g w.heap.size with h | h
      · exact h
      · rw [Array.getElem?_eq_none h] at hg; cases hg
    simp only [storeCells, Sem.run_pure, putCells]
    congr 1
    have : w.heap.setIfInBounds g (Obj.cells ⟨C⟩ t fz) = w.heap := by
      apply Array.ext_getElem?
      intro j
      by_cases e : g = j
      · subst e; rw [hg]; simp [hlt]
      · rw [Array.getElem?_setIfInBounds, if_neg e]
    rw [this]
  | v :: vs, i, C, w, hg, hle, hf, ho => by
    have hlt : g < w.heap.size := by
      rcases Nat.lt_or_ge g w.heap.size with h | h
      · exact h
      · rw [Array.getElem?_eq_none h] at hg; cases hg
    simp only [List.length_cons] at hle
    have hv := ho v (by simp)
    have hadd : (⟨g, off, none⟩ : Addr).add i = ⟨g, off + i, none⟩ := Addr.add_lit _ _ _
    have hcell : w.cell? ⟨g, off + i, none⟩ = some (C.getD (off + i) undef) := by
      have : off + i < C.length := by omega
      simp [World.cell?, hg, List.getD_eq_getElem?_getD, this]
    have hfr : w.frozen? ⟨g, off + i, none⟩ = false := by
      have := hf (off + i) (by omega)
      obtain ⟨f1, f2⟩ := fz
      simp only [World.frozen?, hg]
      by_cases h1 : f1 ≤ off + i
      · have h2 : ¬ (off + i < f2) := fun h2 => this ⟨h1, h2⟩
        simp [h2]
      · simp [h1]
    have hset : w.setCell ⟨g, off + i, none⟩ v = { w with heap := w.heap.setIfInBounds g (.cells ⟨C.set (off + i) v⟩ t fz) } := by
      unfold World.setCell
      congr 1
      apply Array.ext_getElem?
      intro j
      by_cases e : g = j
      · subst e
        have hgj : w.heap[g] = .cells ⟨C⟩ t fz := by rw [Array.getElem?_eq_getElem hlt] at hg; exact Option.some.inj hg
        simp [Array.getElem_modify, hgj, hlt]
      · simp [Array.getElem?_modify, Array.getElem?_setIfInBounds, e]
    have hrun : (store ⟨g, off + i, none⟩ v).run P w = .ok () (w.setCell ⟨g, off + i, none⟩ v) := by
      cases v <;> simp only [isOne] at hv <;> first | (cases hv; done) | simp [store, Sem.run, hcell, hfr]
    have hg' : (w.heap.setIfInBounds g (.cells ⟨C.set (off + i) v⟩ t fz))[g]? = some (.cells ⟨C.set (off + i) v⟩ t fz) := by simp [hlt]
    have ih := run_storeCells' g off t fz vs (i + 1) (C.set (off + i) v) { w with heap := w.heap.setIfInBounds g (.cells ⟨C.set (off + i) v⟩ t fz) } hg'
      (by simp; omega) (by simpa using hf) (fun x hx => ho x (by simp [hx]))
    simp only [storeCells, hadd, Sem.run_bind, hrun, Result.andThen_ok, hset, ih, putCells]
    congr 2
    apply Array.ext_getElem?
    intro j
    by_cases e : g = j
    · subst e; simp [hlt, Nat.add_assoc]
    · simp [Array.getElem?_setIfInBounds, e]

theorem isOne_of {β : Be} {H : Hp} {nb : Nat} {v v' : Value} (h : RV β H nb v v') (h1 : isOne v = true) : isOne v' = true := by
  cases h <;> first | rfl | (simp [isOne, unk] at h1)

theorem putCells_getD : ∀ (cs l : List Value) (off i : Nat), off + cs.length ≤ l.length → (putCells l off cs).getD i undef = if off ≤ i ∧ i < off + cs.length then cs.getD (i - off) undef else l.getD i undef
  | [], l, off, i, _ => by
    rw [if_neg (by simp only [List.length_nil]; omega)]; rfl
  | c :: cs, l, off, i, h => by
    simp only [List.length_cons] at h
    rw [putCells, putCells_getD cs _ _ _ (by simp; omega)]
    by_cases h1 : off + 1 ≤ i ∧ i < off + 1 + cs.length
    · rw [if_pos h1, if_pos (by simp; omega)]
      rw [show i - off = (i - (off + 1)) + 1 from by omega]
      simp
    · rw [if_neg h1]
      by_cases h2 : i = off
      · subst h2
        rw [if_pos (by simp only [List.length_cons]; omega)]
        simp [List.getD_eq_getElem?_getD, show i < l.length from by omega]
      · rw [if_neg (by simp; omega)]
        simp [List.getD_eq_getElem?_getD, List.getElem?_set, Ne.symm h2]

theorem setCells_at : ∀ (cs : List Value) (g : Nat → Value) (off i : Nat), setCells g off cs i = if off ≤ i ∧ i < off + cs.length then cs.getD (i - off) undef else g i
  | [], g, off, i => by
    rw [if_neg (by simp only [List.length_nil]; omega)]; rfl
  | c :: cs, g, off, i => by
    rw [setCells, setCells_at cs]
    simp only [List.length_cons]
    by_cases h1 : off + 1 ≤ i ∧ i < off + 1 + cs.length
    · rw [if_pos h1, if_pos (by omega)]
      rw [show i - off = (i - (off + 1)) + 1 from by omega]
      simp
    · rw [if_neg h1]
      by_cases h2 : i = off
      · subst h2; rw [if_pos (by omega), upd_same]; simp
      · rw [if_neg (by omega), upd_ne _ _ h2]

theorem ext_write {β : Be} {H : Hp} {nb b n n' : Nat} {own own' fl fl' : Bool} {g g' : Cel} (e : H b = .cells own fl n g) (hnn : n ≤ n') : Ext β H nb β (upd H b (.cells own' fl' n' g')) nb := by
  refine ⟨Nat.le_refl _, fun c hc => ?_⟩
  unfold ObjExt
  by_cases h : c = b
  · subst h; rw [e, upd_same]; exact ⟨hnn, fun _ => rfl⟩
  · rw [upd_ne _ _ h]; cases H c <;> simp

/-- The cells of one block of the run's own have been written. -/
theorem Rel.write {β : Be} {H : Hp} {nb : Nat} {w : World} (R : Rel β H nb w) {b n n' : Nat} {fl fl' : Bool} {g g' : Cel} (hb : b < nb) (e : H b = .cells true fl n g) (hnn : n ≤ n') {C' : List Value} {t : TypeId} {fz : Nat × Nat}
    (hC : ∃ C t0, w.heap[(β b).blk]? = some (.cells ⟨C⟩ t fz) ∧ t0 = t ∧ C.length = C'.length) (hf : ∀ o, o < C'.length → ¬ (fz.1 ≤ o ∧ o < fz.2)) (hn : n' ≤ C'.length)
    (hg : ∀ i, i < n' → RV β H nb (g' i) (C'.getD i undef)) (hfl : (fl' = true → ∀ i, i < n' → flat0 (g' i) = true) ∧ g'.ok n') :
    Rel β (upd H b (.cells true fl' n' g')) nb { w with heap := w.heap.setIfInBounds (β b).blk (.cells ⟨C'⟩ t fz) } ∧
    Foot w nb β H b β (upd H b (.cells true fl' n' g')) nb { w with heap := w.heap.setIfInBounds (β b).blk (.cells ⟨C'⟩ t fz) } := by
  have ex := ext_write (β := β) (nb := nb) (own' := true) (fl' := fl') (g' := g') e hnn
  have hlt := R.lt hb (by rw [e]; rfl)
  obtain ⟨C, _, hC1, _, hC2⟩ := hC
  have hob := R.objs b hb
  unfold ObjOk at hob
  simp only [e] at hob
  obtain ⟨C0, t0, fz0, q1, q2, q3, q4, q5, _⟩ := hob
  rw [hC1] at q1
  simp only [Option.some.injEq, Obj.cells.injEq] at q1
  obtain ⟨rfl, rfl, rfl⟩ := q1
  have q6 := q5 (by trivial)
  refine ⟨⟨fun c hc => ?_, fun c c' hc hc' hne ho hno => ?_⟩, by simp, fun j hj hk => ?_, fun c hc => .inl ⟨hc, rfl⟩, Nat.le_of_lt hb, ex, rfl, rfl, rfl⟩
  · by_cases h : c = b
    · subst h
      unfold ObjOk
      rw [upd_same]
      refine ⟨⟨C'⟩, t, fz, by simp [hlt], by simp [← hC2, ← q2], by rw [q6.1]; simp; omega, fun o ho => ⟨C'.getD o undef, ?_, (hg o ho).ext ex⟩, fun _ => ⟨q6.1, by simpa using hf⟩, hfl⟩
      have : o < C'.length := by omega
      simp [q6.1, List.getD_eq_getElem?_getD, this]
    · have h0 := R.objs c hc
      have hw : ObjOk β H nb { w with heap := w.heap.setIfInBounds (β b).blk (.cells ⟨C'⟩ t fz) } c := by
        have hne : ∀ c', c' < nb → c' ≠ b → isNone (H c') = false → (β b).blk ≠ (β c').blk := fun c' hc' hne hnn => R.inj b c' hb hc' (Ne.symm hne) (by rw [e]; rfl) hnn
        unfold ObjOk at h0 ⊢
        cases ec : H c <;> simp only [ec] at h0 ⊢
        · have := hne c hc h (by rw [ec]; rfl)
          rw [Array.getElem?_setIfInBounds, if_neg this]; exact h0
        · have := hne c hc h (by rw [ec]; rfl)
          rw [Array.getElem?_setIfInBounds, if_neg this]; exact h0
        · have := hne c hc h (by rw [ec]; rfl)
          rename_i m nn seen
          obtain ⟨s, l, S, g1, g2, g3, E, clk, g4, g5⟩ := h0
          have hm : m ≠ b := fun he => by rw [he, e] at g3; simp [isMap] at g3
          have := hne m g2 hm (by cases e2 : H m <;> simp_all [isMap, isNone])
          refine ⟨s, l, S, ?_, g2, g3, E, clk, ?_, g5⟩
          · rw [Array.getElem?_setIfInBounds, if_neg (by assumption)]; exact g1
          · rw [Array.getElem?_setIfInBounds, if_neg this]; exact g4
      refine ObjOk.ext' hc ex (upd_ne _ _ h) rfl (fun m hm hmm => ⟨upd_ne _ _ (fun he => ?_), rfl⟩) hw
      rw [he, e] at hmm; simp [isMap] at hmm
  · have h1 : ∀ c, isOwn (upd H b (.cells true fl' n' g') c) = true → isOwn (H c) = true := fun c => by
      by_cases h : c = b
      · subst h; rw [e]; intro _; rfl
      · rw [upd_ne _ _ h]; exact id
    have h2 : ∀ c, isNone (upd H b (.cells true fl' n' g') c) = false → isNone (H c) = false := fun c => by
      by_cases h : c = b
      · subst h; rw [e]; intro _; rfl
      · rw [upd_ne _ _ h]; exact id
    exact R.inj c c' hc hc' hne (h1 c ho) (h2 c' hno)
  · have := hk b (Nat.le_refl _) hb
    simp only
    rw [Array.getElem?_setIfInBounds, if_neg this]

theorem Foot.keep_of {β : Be} {H : Hp} {nb : Nat} {w w' : World} (k : Keeps w w') : Foot w nb β H nb β H nb w' :=
  ⟨k.size, fun j hj _ => k.heap j hj, fun b hb => .inl ⟨hb, rfl⟩, Nat.le_refl _, Ext.refl _ _ _, k.same⟩

theorem keeps_drew (w : World) : Keeps w { w with drawn := w.drawn + 1 } := ⟨fun _ _ => rfl, rfl, rfl, rfl⟩

/-! ### Forgetting -/

theorem idsIn0_rv {β : Be} {H : Hp} {nb nb0 : Nat} {v v' : Value} (h : RV β H nb v v') (hi : idsIn0 nb0 v = true) : RV β H nb0 v v' := by
  cases h with
  | unk => exact .unk _
  | bool b => exact .bool b
  | int k n => exact .int k n
  | string s => exact .string s
  | ptr0 => exact .ptr0
  | @ptr a a' h =>
    obtain ⟨b, o, s⟩ := a
    have hlt : b < nb0 := by simpa [idsIn0] using hi
    cases s with
    | none => exact .ptr ⟨hlt, h.2⟩
    | some ver => exact .ptr ⟨hlt, h.2⟩
  | sl0 n c => exact .sl0 n c
  | @sl a a' len es cap h hr hl =>
    obtain ⟨b, o, s⟩ := a
    have hlt : b < nb0 := by simpa [idsIn0] using hi
    cases s with
    | none => exact hr.elim
    | some ver => exact .sl ⟨hlt, h.2⟩ hr hl
  | @slz a _ _ h => obtain ⟨b, o, s⟩ := a; exact .slz (by simpa [idsIn0] using hi)
  | map0 => exact .map0
  | map h hm hb => exact .map (by simpa [idsIn0] using hi) hm hb
  | nilFunc => exact .nilFunc
  | nilIface => exact .nilIface
  | func fn h1 h2 h3 h4 => simp [idsIn0] at hi
  | iface t h => simp [idsIn0] at hi
  | agg h1 h2 => simp [idsIn0] at hi
  | tuple h1 h2 => simp [idsIn0] at hi

theorem idsIn_rv {β : Be} {H : Hp} {nb nb0 : Nat} {v v' : Value} (h : RV β H nb v v') (hi : idsIn nb0 v = true) : RV β H nb0 v v' := by
  have h0 := h
  cases h with
  | func fn h1 h2 h3 h4 =>
    simp only [idsIn, Bool.and_eq_true] at hi
    exact .func fn h1 (fun i hh => idsIn0_rv (h2 i hh) (getD_all hi.1 hh)) h3 (fun i hh => idsIn0_rv (h4 i hh) (getD_all hi.2 hh))
  | agg h1 h2 => exact .agg h1 (fun i hh => idsIn0_rv (h2 i hh) (getD_all hi hh))
  | _ => exact idsIn0_rv h0 hi

theorem cellsIn_at {nb0 : Nat} {g : Cel} : ∀ {n : Nat}, cellsIn nb0 g n = true → ∀ o, o < n → idsIn nb0 (g o) = true
  | 0, _, o, h => absurd h (Nat.not_lt_zero _)
  | n + 1, h, o, ho => by
    simp only [cellsIn, Bool.and_eq_true] at h
    rcases Nat.lt_or_ge o n with h1 | h1
    · exact cellsIn_at h.2 o h1
    · obtain rfl : o = n := by omega
      exact h.1

theorem blksIn_at {nb0 : Nat} {h : Hp} : ∀ {n : Nat}, blksIn nb0 h n = true → ∀ b, b < n → blkIn nb0 (h b) = true
  | 0, _, o, h => absurd h (Nat.not_lt_zero _)
  | n + 1, h, o, ho => by
    simp only [blksIn, Bool.and_eq_true] at h
    rcases Nat.lt_or_ge o n with h1 | h1
    · exact blksIn_at h.2 o h1
    · obtain rfl : o = n := by omega
      exact h.1

theorem Rel.forget {β : Be} {H : Hp} {nb nb0 : Nat} {w : World} (R : Rel β H nb w) (hle : nb0 ≤ nb) (hb : blksIn nb0 H nb0 = true) : Rel β H nb0 w := by
  refine ⟨fun b hlt => ?_, fun b b' h1 h2 => R.inj b b' (by omega) (by omega)⟩
  have h0 := R.objs b (by omega)
  have h1 := blksIn_at hb b hlt
  unfold ObjOk at h0 ⊢
  cases e : H b <;> simp only [e, blkIn] at h0 h1 ⊢
  · rename_i own fl n g
    obtain ⟨C, t, fz, q1, q2, q3, q4, q5, q6⟩ := h0
    refine ⟨C, t, fz, q1, q2, q3, fun o ho => ?_, q5, q6⟩
    obtain ⟨v', r1, r2⟩ := q4 o ho
    refine ⟨v', r1, ?_⟩
    cases fl with
    | true =>
      have hf := q6.1 rfl o ho
      rw [flat0_eq r2 hf]; exact flat0_refl hf
    | false => exact idsIn_rv r2 (cellsIn_at h1 o ho)
  · rename_i fl es
    subst h1
    obtain ⟨E, clk, q1, ⟨q2, q3, q4, q5⟩, q6⟩ := h0
    refine ⟨E, clk, q1, ⟨q2, fun i hi => ?_, q4, q5⟩, q6⟩
    have hf := q6 (by trivial) i hi
    have := q3 i hi
    rw [flat1_eq this.1 hf.1, flat1_eq this.2 hf.2]
    exact ⟨flat1_refl hf.1, flat1_refl hf.2⟩
  · obtain ⟨s, l, S, g1, g2, g3⟩ := h0
    exact ⟨s, l, S, g1, by simpa using h1, g3⟩

/-! ### Cells of one kind -/

theorem intsOf_out {k : IntKind} : ∀ {cs : List Value} {m : List Int}, intsOf k cs = some m → m.length = cs.length ∧ ∀ i, i < cs.length → cs.getD i undef = .int k (m.getD i 0)
  | [], m, h => by obtain rfl := Option.some.inj h; exact ⟨rfl, fun i hi => absurd hi (by simp)⟩
  | v :: cs, m, h => by
    unfold intsOf at h
    cases v <;> simp only at h
    all_goals first | (cases h; done) | skip
    rename_i k' x
    by_cases hk : k' = k
    · simp only [hk, decide_true] at h
      cases e : intsOf k cs with
      | none => rw [e] at h; cases h
      | some m' =>
        rw [e] at h
        obtain rfl := Option.some.inj h
        obtain ⟨h1, h2⟩ := intsOf_out e
        refine ⟨by simp [h1], fun i hi => ?_⟩
        cases i with
        | zero => simp [hk]
        | succ i => simpa using h2 i (by simpa using hi)
    · simp only [hk, decide_false] at h
      cases h

theorem strsOf_out : ∀ {cs : List Value} {m : List ByteArray}, strsOf cs = some m → m.length = cs.length ∧ ∀ i, i < cs.length → cs.getD i undef = .string (m.getD i .empty)
  | [], m, h => by obtain rfl := Option.some.inj h; exact ⟨rfl, fun i hi => absurd hi (by simp)⟩
  | v :: cs, m, h => by
    unfold strsOf at h
    cases v <;> simp only at h
    all_goals first | (cases h; done) | skip
    rename_i x
    cases e : strsOf cs with
    | none => rw [e] at h; cases h
    | some m' =>
      rw [e] at h
      obtain rfl := Option.some.inj h
      obtain ⟨h1, h2⟩ := strsOf_out e
      refine ⟨by simp [h1], fun i hi => ?_⟩
      cases i with
      | zero => simp
      | succ i => simpa using h2 i (by simpa using hi)

theorem boolsOf_out : ∀ {cs : List Value} {m : List Bool}, boolsOf cs = some m → m.length = cs.length ∧ ∀ i, i < cs.length → cs.getD i undef = .bool (m.getD i false)
  | [], m, h => by obtain rfl := Option.some.inj h; exact ⟨rfl, fun i hi => absurd hi (by simp)⟩
  | v :: cs, m, h => by
    unfold boolsOf at h
    cases v <;> simp only at h
    all_goals first | (cases h; done) | skip
    rename_i x
    cases e : boolsOf cs with
    | none => rw [e] at h; cases h
    | some m' =>
      rw [e] at h
      obtain rfl := Option.some.inj h
      obtain ⟨h1, h2⟩ := boolsOf_out e
      refine ⟨by simp [h1], fun i hi => ?_⟩
      cases i with
      | zero => simp
      | succ i => simpa using h2 i (by simpa using hi)

theorem putL_length {α : Type} : ∀ (xs l : List α) (o : Nat), (putL l o xs).length = l.length
  | [], _, _ => rfl
  | x :: xs, l, o => by rw [putL, putL_length xs]; simp

theorem putL_getD {α : Type} (d : α) : ∀ (xs l : List α) (o i : Nat), o + xs.length ≤ l.length → (putL l o xs).getD i d = if o ≤ i ∧ i < o + xs.length then xs.getD (i - o) d else l.getD i d
  | [], l, o, i, _ => by
    rw [if_neg (by simp only [List.length_nil]; omega)]; rfl
  | x :: xs, l, o, i, h => by
    simp only [List.length_cons] at h
    rw [putL, putL_getD d xs _ _ _ (by simp; omega)]
    by_cases h1 : o + 1 ≤ i ∧ i < o + 1 + xs.length
    · rw [if_pos h1, if_pos (by simp; omega)]
      rw [show i - o = (i - (o + 1)) + 1 from by omega]
      simp
    · rw [if_neg h1]
      by_cases h2 : i = o
      · subst h2
        rw [if_pos (by simp only [List.length_cons]; omega)]
        simp [List.getD_eq_getElem?_getD, show i < l.length from by omega]
      · rw [if_neg (by simp; omega)]
        simp [List.getD_eq_getElem?_getD, List.getElem?_set, Ne.symm h2]

theorem Cel.put_ok {c : Cel} {o n : Nat} {cs : List Value} (h : c.ok n) : (c.put o cs).ok n := by
  cases c <;> simp only [Cel.put]
  · trivial
  all_goals (split <;> first | trivial | (simp only [Cel.ok] at h ⊢; rw [putL_length]; exact h))

theorem Cel.put_at {c : Cel} {o n : Nat} {cs : List Value} (h : c.ok n) (ho : o + cs.length ≤ n) (k : Nat) : (c.put o cs).at k = setCells c.at o cs k := by
  cases c <;> simp only [Cel.put, Cel.ok] at h ⊢
  · rfl
  all_goals
    split
    · rename_i m e
      first
        | (obtain ⟨h1, h2⟩ := intsOf_out e
           rw [setCells_at]; simp only [Cel.at]; rw [putL_getD _ _ _ _ _ (by omega), h1]
           by_cases hk : o ≤ k ∧ k < o + cs.length
           · rw [if_pos hk, if_pos hk, h2 _ (by omega)]
           · rw [if_neg hk, if_neg hk])
        | (obtain ⟨h1, h2⟩ := strsOf_out e
           rw [setCells_at]; simp only [Cel.at]; rw [putL_getD _ _ _ _ _ (by omega), h1]
           by_cases hk : o ≤ k ∧ k < o + cs.length
           · rw [if_pos hk, if_pos hk, h2 _ (by omega)]
           · rw [if_neg hk, if_neg hk])
        | (obtain ⟨h1, h2⟩ := boolsOf_out e
           rw [setCells_at]; simp only [Cel.at]; rw [putL_getD _ _ _ _ _ (by omega), h1]
           by_cases hk : o ≤ k ∧ k < o + cs.length
           · rw [if_pos hk, if_pos hk, h2 _ (by omega)]
           · rw [if_neg hk, if_neg hk])
    · rfl

theorem getD_sub {α : Type} (d : α) (l : List α) (o m k : Nat) (hk : k < m) : ((l.drop o).take m).getD k d = l.getD (o + k) d := by
  simp [List.getD_eq_getElem?_getD, List.getElem?_take, hk, List.getElem?_drop]

theorem Cel.sub_ok {c : Cel} {o m n : Nat} (h : c.ok n) (ho : o + m ≤ n) : (c.sub o m).ok m := by
  cases c <;> simp only [Cel.sub, Cel.ok] at h ⊢
  all_goals (rw [List.length_take, List.length_drop]; omega)

theorem Cel.sub_at {c : Cel} {o m k : Nat} (hk : k < m) : (c.sub o m).at k = c.at (o + k) := by
  cases c <;> simp only [Cel.sub, Cel.at]
  all_goals rw [getD_sub _ _ _ _ _ hk]

theorem Cel.app_ok {c d : Cel} {o m n n' : Nat} (h : c.ok n) (h' : d.ok n') (ho : o + m ≤ n') : (c.app n d o m).ok (n + m) := by
  cases c <;> cases d <;> simp only [Cel.app, Cel.mix, Cel.ok] at h h' ⊢
  case ints.ints k l k' l' =>
    by_cases hk : k = k'
    · simp only [hk, decide_true]; rw [List.length_append, List.length_take, List.length_drop]; omega
    · simp only [hk, decide_false]
  all_goals first | trivial | (rw [List.length_append, List.length_take, List.length_drop]; omega)

theorem getD_app {α : Type} (d : α) (l l' : List α) (n o m k : Nat) (hl : l.length = n) (hk : k < n + m) : (l ++ (l'.drop o).take m).getD k d = bif Nat.blt k n then l.getD k d else l'.getD (o + (k - n)) d := by
  subst hl
  cases e : Nat.blt k l.length with
  | true =>
    have : k < l.length := by simpa using e
    simp [List.getD_eq_getElem?_getD, List.getElem?_append_left this]
  | false =>
    have h1 : l.length ≤ k := by
      rcases Nat.lt_or_ge k l.length with h | h
      · rw [show Nat.blt k l.length = true from by simpa using h] at e; cases e
      · exact h
    have := getD_sub d l' o m (k - l.length) (by omega)
    rw [cond_false, ← this]
    simp [List.getD_eq_getElem?_getD, List.getElem?_append_right h1]

theorem Cel.app_at {c d : Cel} {o m n k : Nat} (h : c.ok n) (hk : k < n + m) : (c.app n d o m).at k = bif Nat.blt k n then c.at k else d.at (o + (k - n)) := by
  cases c <;> cases d <;> simp only [Cel.app, Cel.mix, Cel.at, Cel.ok] at h ⊢
  case ints.ints kd l kd' l' =>
    by_cases hd : kd = kd'
    · simp only [hd, decide_true]
      rw [getD_app _ _ _ _ _ _ _ h hk]
      cases Nat.blt k n <;> rfl
    · simp only [hd, decide_false, Cel.at]
  all_goals (rw [getD_app _ _ _ _ _ _ _ h hk]; cases Nat.blt k n <;> rfl)

theorem celOf_ok {z l : List Value} {n : Nat} (hn : l.length = n) : (celOf z l).ok n := by
  unfold celOf
  split
  · split
    · rename_i e; exact (intsOf_out e).1.trans hn
    · trivial
  · split
    · rename_i e; exact (strsOf_out e).1.trans hn
    · trivial
  · split
    · rename_i e; exact (boolsOf_out e).1.trans hn
    · trivial
  · trivial

theorem celOf_at {z l : List Value} {k : Nat} (hk : k < l.length) : (celOf z l).at k = l.getD k undef := by
  unfold celOf
  split
  · split
    · rename_i e; exact ((intsOf_out e).2 k hk).symm
    · rfl
  · split
    · rename_i e; exact ((strsOf_out e).2 k hk).symm
    · rfl
  · split
    · rename_i e; exact ((boolsOf_out e).2 k hk).symm
    · rfl
  · rfl

theorem celRep_ok {z : List Value} {n : Nat} : (celRep z n).ok n := by
  unfold celRep
  split
  · simp [Cel.ok]
  · simp [Cel.ok]
  · simp [Cel.ok]
  · split
    · split
      · split
        · simp [Cel.ok]
        · trivial
      · trivial
    · trivial

theorem getD_rep {α : Type} (d x : α) {n k : Nat} (hk : k < n) : (List.replicate n x).getD k d = x := by
  simp [List.getD_eq_getElem?_getD, hk]

theorem celRep_at {z : List Value} {n k : Nat} (hz : 0 < z.length) (hk : k < n) : (celRep z n).at k = z.getD (k % z.length) undef := by
  unfold celRep
  split
  · simp only [Cel.at]; rw [getD_rep _ _ hk]; simp [Nat.mod_one]
  · simp only [Cel.at]; rw [getD_rep _ _ hk]; simp [Nat.mod_one]
  · simp only [Cel.at]; rw [getD_rep _ _ hk]; simp [Nat.mod_one]
  · split
    · split
      · rename_i m e
        split
        · rename_i h0
          obtain ⟨h1, h2⟩ := intsOf_out e
          have h3 := Nat.mod_lt k hz
          rw [h2 _ h3]
          simp only [Cel.at]; rw [getD_rep _ _ hk]
          have h4 : ∀ x ∈ m, x = 0 := fun x hx => by simpa using List.all_eq_true.1 h0 x hx
          have h5 : ∀ j, j < m.length → m.getD j 0 ∈ m := fun j hj => by
            rw [List.getD_eq_getElem?_getD, List.getElem?_eq_getElem hj]
            exact List.getElem_mem _
          rw [h4 _ (h5 _ (by rw [h1]; exact h3))]
        · rfl
      · rfl
    · rfl

end Go.Eng
