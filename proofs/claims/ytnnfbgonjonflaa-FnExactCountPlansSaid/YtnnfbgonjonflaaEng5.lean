/- A part of the interpreter of Go code, and of the proof that it says what Go does; no condition. -/
import Derived.Test.YtnnfbgonjonflaaEng4
set_option linter.unusedSimpArgs false
set_option linter.unusedVariables false
namespace Go.Eng
variable {Fb : Nat}
variable {P : Program} {T : TT}

/-- What a piece of a run leaves of what was: from (β₀, H₀, nb₀, W₀) to (β, H, nb, w); 'lo': no block below it has been written. -/
structure Foot (W0 : World) (nb0 : Nat) (β0 : Be) (H0 : Hp) (lo : Nat) (β : Be) (H : Hp) (nb : Nat) (w : World) : Prop where
  size : W0.heap.size ≤ w.heap.size
  keep : ∀ j, j < W0.heap.size → (∀ b, lo ≤ b → b < nb0 → (β0 b).blk ≠ j) → w.heap[j]? = W0.heap[j]?
  new : ∀ b, b < nb → (b < nb0 ∧ β b = β0 b) ∨ W0.heap.size ≤ (β b).blk
  le : lo ≤ nb0
  ext : Ext β0 H0 nb0 β H nb
  same : Same W0 w

theorem Foot.refl (W : World) (nb : Nat) (β : Be) (H : Hp) : Foot W nb β H nb β H nb W :=
  ⟨Nat.le_refl _, fun _ _ _ => rfl, fun b hb => .inl ⟨hb, rfl⟩, Nat.le_refl _, Ext.refl _ _ _, Same.refl _⟩

theorem Foot.trans {W0 w1 w2 : World} {nb0 nb1 nb2 lo lo' : Nat} {β0 β1 β2 : Be} {H0 H1 H2 : Hp} (h : Foot W0 nb0 β0 H0 lo β1 H1 nb1 w1) (h' : Foot w1 nb1 β1 H1 lo' β2 H2 nb2 w2) :
    Foot W0 nb0 β0 H0 (Nat.min lo lo') β2 H2 nb2 w2 := by
  refine ⟨Nat.le_trans h.size h'.size, fun j hj hb => ?_, fun b hb => ?_, Nat.le_trans (Nat.min_le_left _ _) h.le, h.ext.trans h'.ext, h.same.trans h'.same⟩
  · have h1 := h.keep j hj (fun b hlo hlt => hb b (Nat.le_trans (Nat.min_le_left _ _) hlo) hlt)
    rw [← h1]
    refine h'.keep j (Nat.lt_of_lt_of_le hj h.size) fun b hlo hlt => ?_
    rcases h.new b hlt with ⟨h2, h3⟩ | h2
    · rw [h3]; exact hb b (Nat.le_trans (Nat.min_le_right _ _) hlo) h2
    · omega
  · rcases h'.new b hb with ⟨h2, h3⟩ | h2
    · rw [h3]; exact h.new b h2
    · exact .inr (Nat.le_trans h.size h2)

theorem Foot.lo_mono {W0 w : World} {nb0 nb lo lo' : Nat} {β0 β : Be} {H0 H : Hp} (h : Foot W0 nb0 β0 H0 lo β H nb w) (hl : lo' ≤ lo) : Foot W0 nb0 β0 H0 lo' β H nb w :=
  ⟨h.size, fun j hj hb => h.keep j hj fun b h1 h2 => hb b (Nat.le_trans hl h1) h2, h.new, Nat.le_trans hl h.le, h.ext, h.same⟩

theorem upd_same {α : Type} (f : Nat → α) (d : Nat) (v : α) : upd f d v d = v := by simp [upd]
theorem upd_ne {α : Type} (f : Nat → α) {d k : Nat} (v : α) (h : k ≠ d) : upd f d v k = f k := by
  have : Nat.beq k d = false := by
    cases h2 : Nat.beq k d
    · rfl
    · exact absurd (Nat.eq_of_beq_eq_true h2) h
  simp [upd, this]

theorem ObjOk.ext' {β β' : Be} {H H' : Hp} {nb nb' : Nat} {w : World} {b : Nat} (hb : b < nb) (e : Ext β H nb β' H' nb') (h1 : H' b = H b) (h2 : β' b = β b) (h3 : ∀ m, m < nb → isMap (H m) = true → H' m = H m ∧ β' m = β m) (h : ObjOk β H nb w b) : ObjOk β' H' nb' w b := by
  unfold ObjOk at *
  rw [h1]
  cases eb : H b <;> simp only [eb] at h ⊢
  · obtain ⟨C, t, fz, g1, g2, g3, g4, g5, g6⟩ := h
    rw [h2]
    exact ⟨C, t, fz, g1, g2, g3, fun o ho => let ⟨v', q1, q2⟩ := g4 o ho; ⟨v', q1, q2.ext e⟩, g5, g6⟩
  · obtain ⟨E, clk, g1, ⟨g2, g3, g4, g5⟩, g6⟩ := h
    rw [h2]
    exact ⟨E, clk, g1, ⟨g2, fun i hi => ⟨(g3 i hi).1.ext e, (g3 i hi).2.ext e⟩, g4, g5⟩, g6⟩
  · rename_i m n seen
    obtain ⟨s, l, S, g1, g2, g3, E, clk, g4, g5⟩ := h
    obtain ⟨q1, q2⟩ := h3 m g2 g3
    rw [h2, q2]
    exact ⟨s, l, S, g1, Nat.lt_of_lt_of_le g2 e.le, by rw [q1]; exact g3, E, clk, g4, g5⟩

theorem ext_alloc {β : Be} {H : Hp} {nb : Nat} (bl : Bl) (ob : AObj) : Ext β H nb (upd β nb bl) (upd H nb ob) (nb + 1) := by
  refine ⟨Nat.le_succ _, fun b hb => ?_⟩
  have hne : b ≠ nb := Nat.ne_of_lt hb
  unfold ObjExt
  rw [upd_ne _ _ hne, upd_ne _ _ hne]
  cases H b <;> simp

theorem keeps_alloc (w : World) (o : Obj) : Keeps w (w.alloc o) := by
  refine ⟨fun j hj => ?_, rfl, rfl, rfl⟩
  simp only [World.alloc]
  rw [Array.getElem?_push_lt hj, Array.getElem?_eq_getElem hj]

theorem alloc_last (w : World) (o : Obj) : (w.alloc o).heap[w.heap.size]? = some o := by simp only [World.alloc, Array.getElem?_push_size]

theorem Rel.allocZ {β : Be} {H : Hp} {nb : Nat} {w : World} (R : Rel Fb β H nb w) {C : List Value} {t : TypeId} {n : Nat} {fl : Bool} {g : Cel} (fz : Nat × Nat) (hz : ∀ o, o < C.length → ¬ (fz.1 ≤ o ∧ o < fz.2)) (hn : n ≤ C.length) (hg : ∀ i, i < n → RV β H nb (g i) (C.getD i undef)) (hfl : (fl = true → ∀ i, i < n → flat0 (g i) = true) ∧ g.ok n) :
    Rel Fb (upd β nb ⟨w.heap.size, 0, C.length⟩) (upd H nb (.cells true fl n g)) (nb + 1) (w.alloc (.cells ⟨C⟩ t fz)) := by
  have e := ext_alloc (β := β) (H := H) (nb := nb) ⟨w.heap.size, 0, C.length⟩ (.cells true fl n g)
  refine ⟨fun b hb => ?_, fun b b' hb hb' hne ho hn => ?_, R.floor.to (keeps_alloc _ _).size (fun j hj _ => (keeps_alloc _ _).heap j hj) fun b hb ho => ?_⟩
  rotate_left
  rotate_left
  · rcases Nat.lt_or_ge b nb with hlt | hge
    · have hn : b ≠ nb := Nat.ne_of_lt hlt
      rw [upd_ne _ _ hn] at ho
      exact .inl ⟨b, hlt, ho, by rw [upd_ne _ _ hn]⟩
    · obtain rfl : b = nb := by omega
      rw [upd_same]; exact .inr (Nat.le_refl _)
  · rcases Nat.lt_or_ge b nb with hlt | hge
    · have hn : b ≠ nb := Nat.ne_of_lt hlt
      refine ObjOk.ext' hlt e (upd_ne _ _ hn) (upd_ne _ _ hn) (fun m hm _ => ⟨upd_ne _ _ (Nat.ne_of_lt hm), upd_ne _ _ (Nat.ne_of_lt hm)⟩) ?_
      exact ObjOk.keep (keeps_alloc _ _) R hlt
    · obtain rfl : b = nb := by omega
      unfold ObjOk
      rw [upd_same, upd_same]
      refine ⟨⟨C⟩, t, fz, alloc_last _ _, by simp, by simpa using hn, fun o ho => ⟨C.getD o undef, ?_, (hg o ho).ext e⟩, fun _ => ⟨rfl, fun o ho h => hz o ho h⟩, hfl⟩
      have : o < C.length := by omega
      simp [List.getD_eq_getElem?_getD, this]
  · rcases Nat.lt_or_ge b nb with hlt | hge
    · rcases Nat.lt_or_ge b' nb with hlt' | hge'
      · rw [upd_ne _ _ (Nat.ne_of_lt hlt), upd_ne _ _ (Nat.ne_of_lt hlt')]
        rw [upd_ne _ _ (Nat.ne_of_lt hlt)] at ho
        rw [upd_ne _ _ (Nat.ne_of_lt hlt')] at hn
        exact R.inj b b' hlt hlt' hne ho hn
      · obtain rfl : b' = nb := by omega
        rw [upd_ne _ _ (Nat.ne_of_lt hlt), upd_same]
        rw [upd_ne _ _ (Nat.ne_of_lt hlt)] at ho
        have := R.lt hlt (by cases e2 : H b <;> simp_all [isOwn, isNone])
        simp only; omega
    · obtain rfl : b = nb := by omega
      have hlt' : b' < b := by omega
      rw [upd_ne _ _ (Nat.ne_of_lt hlt'), upd_same]
      rw [upd_ne _ _ (Nat.ne_of_lt hlt')] at hn
      have := R.lt hlt' hn
      simp only; omega

theorem Rel.alloc {β : Be} {H : Hp} {nb : Nat} {w : World} (R : Rel Fb β H nb w) {C : List Value} {t : TypeId} {n : Nat} {fl : Bool} {g : Cel} (hn : n ≤ C.length) (hg : ∀ i, i < n → RV β H nb (g i) (C.getD i undef)) (hfl : (fl = true → ∀ i, i < n → flat0 (g i) = true) ∧ g.ok n) :
    Rel Fb (upd β nb ⟨w.heap.size, 0, C.length⟩) (upd H nb (.cells true fl n g)) (nb + 1) (w.alloc (.cells ⟨C⟩ t)) :=
  R.allocZ (0, 0) (fun o _ h => by simp at h) hn hg hfl

/-- A slice's own block has grown, and lies elsewhere now. -/
theorem Rel.regrow {β : Be} {H : Hp} {nb : Nat} {w : World} (R : Rel Fb β H nb w) {b n n' : Nat} {own fl fl' : Bool} {g g' : Cel} (hb : b < nb) (eb : H b = .cells own fl n g) (hlt : n < n') {C : List Value} {t : TypeId} (hn : n' ≤ C.length)
    (hg : ∀ i, i < n' → RV β H nb (g' i) (C.getD i undef)) (hfl : (fl' = true → ∀ i, i < n' → flat0 (g' i) = true) ∧ g'.ok n') :
    Rel Fb (upd β b ⟨w.heap.size, 0, C.length⟩) (upd H b (.cells true fl' n' g')) nb (w.alloc (.cells ⟨C⟩ t)) ∧
    Foot w nb β H b (upd β b ⟨w.heap.size, 0, C.length⟩) (upd H b (.cells true fl' n' g')) nb (w.alloc (.cells ⟨C⟩ t)) := by
  have ex : Ext β H nb (upd β b ⟨w.heap.size, 0, C.length⟩) (upd H b (.cells true fl' n' g')) nb := by
    refine ⟨Nat.le_refl _, fun c hc => ?_⟩
    unfold ObjExt
    by_cases h : c = b
    · subst h; rw [eb, upd_same]; exact ⟨by omega, fun h => by omega⟩
    · rw [upd_ne _ _ h, upd_ne _ _ h]; cases H c <;> simp
  have hnm : ∀ m, isMap (H m) = true → m ≠ b := fun m hm he => by rw [he, eb] at hm; simp [isMap] at hm
  refine ⟨⟨fun c hc => ?_, fun c c' hc hc' hne ho hnn => ?_, R.floor.to (keeps_alloc _ _).size (fun j hj _ => (keeps_alloc _ _).heap j hj) fun c hc ho => by
    by_cases h : c = b
    · subst h; rw [upd_same]; exact .inr (Nat.le_refl _)
    · rw [upd_ne _ _ h] at ho; exact .inl ⟨c, hc, ho, by rw [upd_ne _ _ h]⟩⟩, by simp, fun j hj _ => (keeps_alloc _ _).heap j hj, fun c hc => ?_, Nat.le_of_lt hb, ex, rfl, rfl, rfl⟩
  · by_cases h : c = b
    · subst h
      unfold ObjOk
      rw [upd_same, upd_same]
      refine ⟨⟨C⟩, t, (0, 0), alloc_last _ _, by simp, by simpa using hn, fun o ho => ⟨C.getD o undef, ?_, (hg o ho).ext ex⟩, fun _ => ⟨rfl, fun o _ h => by simp at h⟩, hfl⟩
      have : o < C.length := by omega
      simp [List.getD_eq_getElem?_getD, this]
    · exact ObjOk.ext' hc ex (upd_ne _ _ h) (upd_ne _ _ h) (fun m hm hmm => ⟨upd_ne _ _ (hnm m hmm), upd_ne _ _ (hnm m hmm)⟩) (ObjOk.keep (keeps_alloc _ _) R hc)
  · by_cases h : c = b
    · subst h
      have h' : c' ≠ c := Ne.symm hne
      rw [upd_same, upd_ne _ _ h']
      rw [upd_ne _ _ h'] at hnn
      have := R.lt hc' hnn
      simp only; omega
    · rw [upd_ne _ _ h] at ho ⊢
      by_cases h' : c' = b
      · subst h'
        rw [upd_same]
        have := R.lt hc (by cases e2 : H c <;> simp_all [isOwn, isNone])
        simp only; omega
      · rw [upd_ne _ _ h'] at hnn ⊢
        exact R.inj c c' hc hc' hne ho hnn
  · by_cases h : c = b
    · subst h; rw [upd_same]; exact .inr (Nat.le_refl _)
    · exact .inl ⟨hc, upd_ne _ _ h⟩

theorem Foot.alloc {β : Be} {H : Hp} {nb : Nat} {w : World} (o : Obj) (ob : AObj) (n : Nat) : Foot w nb β H nb (upd β nb ⟨w.heap.size, 0, n⟩) (upd H nb ob) (nb + 1) (w.alloc o) := by
  refine ⟨by simp, fun j hj _ => (keeps_alloc _ _).heap j hj, fun b hb => ?_, Nat.le_refl _, ext_alloc _ _, rfl, rfl, rfl⟩
  rcases Nat.lt_or_ge b nb with hlt | hge
  · exact .inl ⟨hlt, upd_ne _ _ (Nat.ne_of_lt hlt)⟩
  · obtain rfl : b = nb := by omega
    rw [upd_same]; exact .inr (Nat.le_refl _)

/-! ### Writing cells -/

theorem setIfInBounds_mk (l : List Value) (i : Nat) (v : Value) : (⟨l⟩ : Array Value).setIfInBounds i v = ⟨l.set i v⟩ := by simp

theorem run_storeCells' (g off : Nat) (t : TypeId) (fz : Nat × Nat) : ∀ (vs : List Value) (i : Nat) (C : List Value) (w : World), w.heap[g]? = some (.cells ⟨C⟩ t fz) → off + i + vs.length ≤ C.length →
    (∀ o, o < C.length → ¬ (fz.1 ≤ o ∧ o < fz.2)) → (∀ v ∈ vs, isOne v = true) →
    (storeCells ⟨g, off, none⟩ vs i).run P w = .ok () { w with heap := w.heap.setIfInBounds g (.cells ⟨putCells C (off + i) vs⟩ t fz) }
  | [], i, C, w, hg, _, _, _ => by
    have hlt : g < w.heap.size := by
      rcases Nat.lt_or_ge g w.heap.size with h | h
      · exact h
      · rw [Array.getElem?_eq_none h] at hg; cases hg
    simp only [storeCells, Sem.run_pure, putCells]
    congr 1
    have : w.heap.setIfInBounds g (Obj.cells ⟨C⟩ t fz) = w.heap := by
      apply Array.ext_getElem?
      intro j
      by_cases e : g = j
      · subst e; rw [hg]; simp [hlt]
      · rw [Array.getElem?_setIfInBounds, if_neg e]
    rw [this]
  | v :: vs, i, C, w, hg, hle, hf, ho => by
    have hlt : g < w.heap.size := by
      rcases Nat.lt_or_ge g w.heap.size with h | h
      · exact h
      · rw [Array.getElem?_eq_none h] at hg; cases hg
    simp only [List.length_cons] at hle
    have hv := ho v (by simp)
    have hadd : (⟨g, off, none⟩ : Addr).add i = ⟨g, off + i, none⟩ := Addr.add_lit _ _ _
    have hcell : w.cell? ⟨g, off + i, none⟩ = some (C.getD (off + i) undef) := by
      have : off + i < C.length := by omega
      simp [World.cell?, hg, List.getD_eq_getElem?_getD, this]
    have hfr : w.frozen? ⟨g, off + i, none⟩ = false := by
      have := hf (off + i) (by omega)
      obtain ⟨f1, f2⟩ := fz
      simp only [World.frozen?, hg]
      by_cases h1 : f1 ≤ off + i
      · have h2 : ¬ (off + i < f2) := fun h2 => this ⟨h1, h2⟩
        simp [h2]
      · simp [h1]
    have hset : w.setCell ⟨g, off + i, none⟩ v = { w with heap := w.heap.setIfInBounds g (.cells ⟨C.set (off + i) v⟩ t fz) } := by
      unfold World.setCell
      congr 1
      apply Array.ext_getElem?
      intro j
      by_cases e : g = j
      · subst e
        have hgj : w.heap[g] = .cells ⟨C⟩ t fz := by rw [Array.getElem?_eq_getElem hlt] at hg; exact Option.some.inj hg
        simp [Array.getElem_modify, hgj, hlt]
      · simp [Array.getElem?_modify, Array.getElem?_setIfInBounds, e]
    have hrun : (store ⟨g, off + i, none⟩ v).run P w = .ok () (w.setCell ⟨g, off + i, none⟩ v) := by
      cases v <;> simp only [isOne] at hv <;> first | (cases hv; done) | simp [store, Sem.run, hcell, hfr]
    have hg' : (w.heap.setIfInBounds g (.cells ⟨C.set (off + i) v⟩ t fz))[g]? = some (.cells ⟨C.set (off + i) v⟩ t fz) := by simp [hlt]
    have ih := run_storeCells' g off t fz vs (i + 1) (C.set (off + i) v) { w with heap := w.heap.setIfInBounds g (.cells ⟨C.set (off + i) v⟩ t fz) } hg'
      (by simp; omega) (by simpa using hf) (fun x hx => ho x (by simp [hx]))
    simp only [storeCells, hadd, Sem.run_bind, hrun, Result.andThen_ok, hset, ih, putCells]
    congr 2
    apply Array.ext_getElem?
    intro j
    by_cases e : g = j
    · subst e; simp [hlt, Nat.add_assoc]
    · simp [Array.getElem?_setIfInBounds, e]

theorem isOne_of {β : Be} {H : Hp} {nb : Nat} {v v' : Value} (h : RV β H nb v v') (h1 : isOne v = true) : isOne v' = true := by
  cases h <;> first | rfl | (simp [isOne, unk] at h1)

theorem putCells_getD : ∀ (cs l : List Value) (off i : Nat), off + cs.length ≤ l.length → (putCells l off cs).getD i undef = if off ≤ i ∧ i < off + cs.length then cs.getD (i - off) undef else l.getD i undef
  | [], l, off, i, _ => by
    rw [if_neg (by simp only [List.length_nil]; omega)]; rfl
  | c :: cs, l, off, i, h => by
    simp only [List.length_cons] at h
    rw [putCells, putCells_getD cs _ _ _ (by simp; omega)]
    by_cases h1 : off + 1 ≤ i ∧ i < off + 1 + cs.length
    · rw [if_pos h1, if_pos (by simp; omega)]
      rw [show i - off = (i - (off + 1)) + 1 from by omega]
      simp
    · rw [if_neg h1]
      by_cases h2 : i = off
      · subst h2
        rw [if_pos (by simp only [List.length_cons]; omega)]
        simp [List.getD_eq_getElem?_getD, show i < l.length from by omega]
      · rw [if_neg (by simp; omega)]
        simp [List.getD_eq_getElem?_getD, List.getElem?_set, Ne.symm h2]

theorem setCells_at : ∀ (cs : List Value) (g : Nat → Value) (off i : Nat), setCells g off cs i = if off ≤ i ∧ i < off + cs.length then cs.getD (i - off) undef else g i
  | [], g, off, i => by
    rw [if_neg (by simp only [List.length_nil]; omega)]; rfl
  | c :: cs, g, off, i => by
    rw [setCells, setCells_at cs]
    simp only [List.length_cons]
    by_cases h1 : off + 1 ≤ i ∧ i < off + 1 + cs.length
    · rw [if_pos h1, if_pos (by omega)]
      rw [show i - off = (i - (off + 1)) + 1 from by omega]
      simp
    · rw [if_neg h1]
      by_cases h2 : i = off
      · subst h2; rw [if_pos (by omega), upd_same]; simp
      · rw [if_neg (by omega), upd_ne _ _ h2]

theorem ext_write {β : Be} {H : Hp} {nb b n n' : Nat} {own own' fl fl' : Bool} {g g' : Cel} (e : H b = .cells own fl n g) (hnn : n ≤ n') : Ext β H nb β (upd H b (.cells own' fl' n' g')) nb := by
  refine ⟨Nat.le_refl _, fun c hc => ?_⟩
  unfold ObjExt
  by_cases h : c = b
  · subst h; rw [e, upd_same]; exact ⟨hnn, fun _ => rfl⟩
  · rw [upd_ne _ _ h]; cases H c <;> simp

/-- The cells of one block of the run's own have been written. -/
theorem Rel.write {β : Be} {H : Hp} {nb : Nat} {w : World} (R : Rel Fb β H nb w) {b n n' : Nat} {fl fl' : Bool} {g g' : Cel} (hb : b < nb) (e : H b = .cells true fl n g) (hnn : n ≤ n') {C' : List Value} {t : TypeId} {fz : Nat × Nat}
    (hC : ∃ C t0, w.heap[(β b).blk]? = some (.cells ⟨C⟩ t fz) ∧ t0 = t ∧ C.length = C'.length) (hf : ∀ o, o < C'.length → ¬ (fz.1 ≤ o ∧ o < fz.2)) (hn : n' ≤ C'.length)
    (hg : ∀ i, i < n' → RV β H nb (g' i) (C'.getD i undef)) (hfl : (fl' = true → ∀ i, i < n' → flat0 (g' i) = true) ∧ g'.ok n') :
    Rel Fb β (upd H b (.cells true fl' n' g')) nb { w with heap := w.heap.setIfInBounds (β b).blk (.cells ⟨C'⟩ t fz) } ∧
    Foot w nb β H b β (upd H b (.cells true fl' n' g')) nb { w with heap := w.heap.setIfInBounds (β b).blk (.cells ⟨C'⟩ t fz) } := by
  have ex := ext_write (β := β) (nb := nb) (own' := true) (fl' := fl') (g' := g') e hnn
  have hlt := R.lt hb (by rw [e]; rfl)
  obtain ⟨C, _, hC1, _, hC2⟩ := hC
  have hob := R.objs b hb
  unfold ObjOk at hob
  simp only [e] at hob
  obtain ⟨C0, t0, fz0, q1, q2, q3, q4, q5, _⟩ := hob
  rw [hC1] at q1
  simp only [Option.some.injEq, Obj.cells.injEq] at q1
  obtain ⟨rfl, rfl, rfl⟩ := q1
  have q6 := q5 (by trivial)
  refine ⟨⟨fun c hc => ?_, fun c c' hc hc' hne ho hno => ?_, R.floor.to (by simp) (fun j hj hk => by
      have := hk b hb (by rw [e]; rfl)
      simp only
      rw [Array.getElem?_setIfInBounds, if_neg this]) fun c hc ho => by
    by_cases h : c = b
    · subst h; exact .inl ⟨c, hc, by rw [e]; rfl, rfl⟩
    · rw [upd_ne _ _ h] at ho; exact .inl ⟨c, hc, ho, rfl⟩⟩, by simp, fun j hj hk => ?_, fun c hc => .inl ⟨hc, rfl⟩, Nat.le_of_lt hb, ex, rfl, rfl, rfl⟩
  · by_cases h : c = b
    · subst h
      unfold ObjOk
      rw [upd_same]
      refine ⟨⟨C'⟩, t, fz, by simp [hlt], by simp [← hC2, ← q2], by rw [q6.1]; simp; omega, fun o ho => ⟨C'.getD o undef, ?_, (hg o ho).ext ex⟩, fun _ => ⟨q6.1, by simpa using hf⟩, hfl⟩
      have : o < C'.length := by omega
      simp [q6.1, List.getD_eq_getElem?_getD, this]
    · have h0 := R.objs c hc
      have hw : ObjOk β H nb { w with heap := w.heap.setIfInBounds (β b).blk (.cells ⟨C'⟩ t fz) } c := by
        have hne : ∀ c', c' < nb → c' ≠ b → isNone (H c') = false → (β b).blk ≠ (β c').blk := fun c' hc' hne hnn => R.inj b c' hb hc' (Ne.symm hne) (by rw [e]; rfl) hnn
        unfold ObjOk at h0 ⊢
        cases ec : H c <;> simp only [ec] at h0 ⊢
        · have := hne c hc h (by rw [ec]; rfl)
          rw [Array.getElem?_setIfInBounds, if_neg this]; exact h0
        · have := hne c hc h (by rw [ec]; rfl)
          rw [Array.getElem?_setIfInBounds, if_neg this]; exact h0
        · have := hne c hc h (by rw [ec]; rfl)
          rename_i m nn seen
          obtain ⟨s, l, S, g1, g2, g3, E, clk, g4, g5⟩ := h0
          have hm : m ≠ b := fun he => by rw [he, e] at g3; simp [isMap] at g3
          have := hne m g2 hm (by cases e2 : H m <;> simp_all [isMap, isNone])
          refine ⟨s, l, S, ?_, g2, g3, E, clk, ?_, g5⟩
          · rw [Array.getElem?_setIfInBounds, if_neg (by assumption)]; exact g1
          · rw [Array.getElem?_setIfInBounds, if_neg this]; exact g4
      refine ObjOk.ext' hc ex (upd_ne _ _ h) rfl (fun m hm hmm => ⟨upd_ne _ _ (fun he => ?_), rfl⟩) hw
      rw [he, e] at hmm; simp [isMap] at hmm
  · have h1 : ∀ c, isOwn (upd H b (.cells true fl' n' g') c) = true → isOwn (H c) = true := fun c => by
      by_cases h : c = b
      · subst h; rw [e]; intro _; rfl
      · rw [upd_ne _ _ h]; exact id
    have h2 : ∀ c, isNone (upd H b (.cells true fl' n' g') c) = false → isNone (H c) = false := fun c => by
      by_cases h : c = b
      · subst h; rw [e]; intro _; rfl
      · rw [upd_ne _ _ h]; exact id
    exact R.inj c c' hc hc' hne (h1 c ho) (h2 c' hno)
  · have := hk b (Nat.le_refl _) hb
    simp only
    rw [Array.getElem?_setIfInBounds, if_neg this]

theorem Foot.keep_of {β : Be} {H : Hp} {nb : Nat} {w w' : World} (k : Keeps w w') : Foot w nb β H nb β H nb w' :=
  ⟨k.size, fun j hj _ => k.heap j hj, fun b hb => .inl ⟨hb, rfl⟩, Nat.le_refl _, Ext.refl _ _ _, k.same⟩

theorem keeps_drew (w : World) : Keeps w { w with drawn := w.drawn + 1 } := ⟨fun _ _ => rfl, rfl, rfl, rfl⟩

/-! ### Forgetting -/

theorem veq0_out {v w : Value} (h : veq0 v w) : v = w := by
  unfold veq0 at h
  split at h
  · split at h
    · obtain ⟨h1, h2⟩ := chk_out h
      have h1 := of_decide_eq_true h1
      subst h1 h2; rfl
    · exact h
  · split at h
    · rw [h]
    · exact h
  · split at h
    · rw [h]
    · exact h
  · split at h
    · obtain ⟨h1, h2, h3, h4⟩ := chk_out h
      simp only [Bool.and_eq_true] at h1
      have e1 := Nat.eq_of_beq_eq_true h1.1
      have e2 := Nat.eq_of_beq_eq_true h1.2
      subst e1 e2 h2 h3 h4; rfl
    · exact h
  · exact h

theorem veqs_out : ∀ {l m : List Value}, veqs l m → l = m
  | [], [], _ => rfl
  | [], _ :: _, h => h.elim
  | _ :: _, [], h => h.elim
  | v :: l, w :: m, h => by rw [veq0_out h.1, veqs_out h.2]

theorem veq_out {v w : Value} (h : veq v w) : v = w := by
  unfold veq at h
  split at h
  · split at h
    · rw [veqs_out h]
    · exact h
  · exact veq0_out h

theorem veqsT_out : ∀ {l m : List Value}, veqsT l m → l = m
  | [], [], _ => rfl
  | [], _ :: _, h => h.elim
  | _ :: _, [], h => h.elim
  | v :: l, w :: m, h => by rw [veq_out h.1, veqsT_out h.2]

theorem veqT_out {v w : Value} (h : veqT v w) : v = w := by
  unfold veqT at h
  split at h
  · split at h
    · rw [veqsT_out h]
    · exact h
  · exact veq_out h

def SameKind (a c : AObj) : Prop :=
  match a with
  | .none => False
  | .cells o' _ n _ => (match c with | .cells o _ n' _ => n = n' ∧ (o = true → o' = true) | _ => False)
  | .map _ _ => isMap c = true
  | .iter _ _ _ => (match c with | .iter _ _ _ => True | _ => False)

/-- What two blocks of cells have to do with each other. -/
structure CellsR (ρ : Nat → Nat) (h' : Hp) (nb' : Nat) (o' fl' : Bool) (n' : Nat) (g' : Cel) (o fl : Bool) (n : Nat) (g : Cel) : Prop where
  own : o = true → o' = true
  len : n' = n
  ok : g'.ok n → g.ok n
  flat : (fl' = true → ∀ k, k < n → flat0 (g'.at k) = true) → (fl = true → ∀ k, k < n → flat0 (g.at k) = true)
  at' : (fl' = true → ∀ k, k < n → flat0 (g'.at k) = true) → ∀ k, k < n → (flat0 (g.at k) = true ∧ g'.at k = g.at k) ∨ (idsIn h' nb' (g.at k) = true ∧ g'.at k = ren ρ (g.at k))

theorem ren_flat {ρ : Nat → Nat} {v : Value} (h : flat0 (ren ρ v) = true) : flat0 v = true ∧ ren ρ v = v := by
  revert h
  cases v with
  | pointer a => cases a <;> simp [ren, ren0, flat0]
  | slice a _ _ => cases a <;> simp [ren, ren0, flat0]
  | map r => cases r <;> simp [ren, ren0, flat0]
  | _ => simp [ren, ren0, flat0]

theorem cellsR_at {ρ : Nat → Nat} {h' : Hp} {nb' : Nat} {g' f : Nat → Value} : ∀ {n : Nat}, cellsR ρ h' nb' g' f n → ∀ k, k < n → idsIn h' nb' (f k) = true ∧ g' k = ren ρ (f k)
  | 0, _, k, hk => absurd hk (Nat.not_lt_zero _)
  | n + 1, h, k, hk => by
    rcases Nat.lt_or_ge k n with h1 | h1
    · exact cellsR_at h.2 k h1
    · obtain rfl : k = n := by omega
      exact ⟨h.1.1, veq_out h.1.2⟩

theorem wObjR_cells {b0 nb' b : Nat} {ρ : Nat → Nat} {h' : Hp} {a : AObj} {o fl : Bool} {n : Nat} {g : Cel} (hw : wObjR b0 ρ h' nb' b a (.cells o fl n g)) : ∃ o' fl' n' g', a = .cells o' fl' n' g' ∧ CellsR ρ h' nb' o' fl' n' g' o fl n g := by
  unfold wObjR at hw
  simp only at hw
  cases a <;> simp only at hw
  all_goals first | exact hw.elim | skip
  rename_i o' fl' n' g'
  refine ⟨o', fl', n', g', rfl, ?_⟩
  obtain ⟨h1, hw⟩ := chk_out hw
  have ho : o = true → o' = true := by cases o <;> cases o' <;> simp_all
  have one : ∀ {g : Cel}, (∀ k, flat0 (g.at k) = true) → n' = n → (g'.ok n → g.ok n) → (∀ k, k < n → g'.at k = g.at k) → CellsR ρ h' nb' o' fl' n' g' o fl n g := fun hf e h2 h3 =>
    ⟨ho, e, h2, fun _ _ k _ => hf k, fun _ k hk => .inl ⟨hf k, h3 k hk⟩⟩
  cases g with
  | fn f =>
    obtain ⟨e, h2, h3⟩ := hw
    rcases h3 with ⟨h3, h4⟩ | h3
    · exact ⟨ho, e, fun _ => trivial, fun h5 h6 k hk => by show flat0 (f k) = true; rw [← h4 k hk]; exact h5 (h2 h6) k hk, fun h5 k hk => .inl ⟨by show flat0 (f k) = true; rw [← h4 k hk]; exact h5 (h2 h3) k hk, h4 k hk⟩⟩
    · refine ⟨ho, e, fun _ => trivial, fun h5 h6 k hk => ?_, fun _ k hk => .inr (cellsR_at h3 k hk)⟩
      have h7 := h5 (h2 h6) k hk
      rw [(cellsR_at h3 k hk).2] at h7
      exact (ren_flat h7).1
  | ints k l =>
    cases g' with
    | ints k' l' =>
      obtain ⟨h2, h3, h4⟩ := chk_out hw
      have h2 := of_decide_eq_true h2
      subst h2 h4
      exact one (fun _ => rfl) h3 id (fun _ _ => rfl)
    | _ => obtain ⟨h3, h4, h5⟩ := hw; exact one (fun _ => rfl) h3 (fun _ => h4) (fun k hk => h5 k hk)
  | strs l =>
    cases g' with
    | strs l' =>
      obtain ⟨h3, h4⟩ := hw
      subst h4
      exact one (fun _ => rfl) h3 id (fun _ _ => rfl)
    | _ => obtain ⟨h3, h4, h5⟩ := hw; exact one (fun _ => rfl) h3 (fun _ => h4) (fun k hk => h5 k hk)
  | bools l =>
    cases g' with
    | bools l' =>
      obtain ⟨h3, h4⟩ := hw
      subst h4
      exact one (fun _ => rfl) h3 id (fun _ _ => rfl)
    | _ => obtain ⟨h3, h4, h5⟩ := hw; exact one (fun _ => rfl) h3 (fun _ => h4) (fun k hk => h5 k hk)

theorem wObjR_map {b0 nb' b : Nat} {ρ : Nat → Nat} {h' : Hp} {a : AObj} {fl : Bool} {es : List (Value × Value)} (hw : wObjR b0 ρ h' nb' b a (.map fl es)) : fl = true ∧ a = .map true es := by
  unfold wObjR at hw
  simp only at hw
  cases a <;> simp only at hw
  all_goals first | exact hw.elim | skip
  obtain ⟨h1, rfl⟩ := chk_out hw
  simp only [Bool.and_eq_true] at h1
  exact ⟨h1.1, by rw [h1.2]⟩

theorem wObjR_iter {b0 nb' b : Nat} {ρ : Nat → Nat} {h' : Hp} {a : AObj} {m n : Nat} {seen : List Nat} (hw : wObjR b0 ρ h' nb' b a (.iter m n seen)) : hasB h' nb' m = true ∧ a = .iter (ρ m) n seen := by
  unfold wObjR at hw
  simp only at hw
  obtain ⟨h1, hw⟩ := hw
  cases a <;> simp only at hw
  all_goals first | exact hw.elim | skip
  obtain ⟨h2, rfl, rfl⟩ := chk_out hw
  exact ⟨h1, by rw [Nat.eq_of_beq_eq_true h2]⟩

theorem wObjR_kind {b0 nb' b : Nat} {ρ : Nat → Nat} {h' : Hp} {a c : AObj} (hw : wObjR b0 ρ h' nb' b a c) (hn : isNone c = false) : SameKind a c := by
  unfold SameKind
  cases c with
  | none => simp [isNone] at hn
  | cells o fl n g =>
    obtain ⟨o', fl', n', g', rfl, h⟩ := wObjR_cells hw
    exact ⟨h.len, h.own⟩
  | map fl es => obtain ⟨_, rfl⟩ := wObjR_map hw; rfl
  | iter m n seen => obtain ⟨_, rfl⟩ := wObjR_iter hw; trivial

section
variable {b0 nb nb' : Nat} {ρ : Nat → Nat} {β : Be} {h h' : Hp}

theorem hasB_out {b : Nat} (hi : hasB h' nb' b = true) : b < nb' ∧ isNone (h' b) = false := by
  unfold hasB at hi
  simp only [Bool.and_eq_true, Nat.blt_eq] at hi
  refine ⟨hi.1, ?_⟩
  have := hi.2
  cases e : h' b <;> simp_all [isNone]

theorem ren_addr (hh : ∀ b, b < nb' → wObjR b0 ρ h' nb' b (h (ρ b)) (h' b)) {b o : Nat} {s : Option Nat} {a' : Addr} (hb : hasB h' nb' b = true) (ha : AddrOk β h nb ⟨ρ b, o, s⟩ a') : AddrOk (fun b => β (ρ b)) h' nb' ⟨b, o, s⟩ a' := by
  obtain ⟨h1, h2⟩ := hasB_out hb
  have hk := wObjR_kind (hh b h1) h2
  unfold SameKind at hk
  cases s with
  | none =>
    obtain ⟨g1, g2, g3⟩ := ha
    refine ⟨h1, g2, ?_⟩
    cases e : h (ρ b) <;> simp only [e] at g3 hk
    all_goals first | exact g3.elim | skip
    cases e' : h' b <;> simp only [e'] at hk ⊢
    all_goals first | exact hk.elim | exact g3
  | some ver =>
    obtain ⟨g1, g2⟩ := ha
    refine ⟨h1, ?_⟩
    cases e : h (ρ b) <;> simp only [e] at g2 hk
    all_goals first | exact g2.elim | skip
    cases e' : h' b <;> simp only [e'] at hk ⊢
    all_goals first | exact hk.elim | skip
    rw [← hk.1]; exact g2

theorem ren_rv0 (hh : ∀ b, b < nb' → wObjR b0 ρ h' nb' b (h (ρ b)) (h' b)) {v v' : Value} (hr : RV β h nb (ren0 ρ v) v') (hi : idsIn0 h' nb' v = true) : RV (fun b => β (ρ b)) h' nb' v v' := by
  cases v with
  | bool b => cases hr; exact .bool b
  | int k n => cases hr; exact .int k n
  | string s => cases hr; exact .string s
  | nilFunc => cases hr; exact .nilFunc
  | nilIface => cases hr; exact .nilIface
  | pointer a =>
    cases a with
    | none => cases hr; exact .ptr0
    | some a =>
      obtain ⟨b, o, s⟩ := a
      cases hr with
      | ptr ha => exact .ptr (ren_addr hh hi ha)
  | slice a n c =>
    cases a with
    | none => cases hr; exact .sl0 n c
    | some a =>
      obtain ⟨b, o, s⟩ := a
      have hb : hasB h' nb' b = true := hi
      generalize hv : ren0 ρ (.slice (some ⟨b, o, s⟩) n c) = y at hr
      have hv : Value.slice (some ⟨ρ b, o, s⟩) n c = y := hv
      cases hr with
      | sl ha hroom hl =>
        simp only [Value.slice.injEq, Option.some.injEq] at hv
        obtain ⟨rfl, rfl, rfl⟩ := hv
        refine .sl (ren_addr hh hb ha) ?_ hl
        obtain ⟨h1, h2⟩ := hasB_out hb
        have hk := wObjR_kind (hh b h1) h2
        unfold SameKind at hk
        cases s with
        | none => exact hroom.elim
        | some ver =>
          unfold RoomOk at hroom ⊢
          simp only at hroom ⊢
          cases e : h (ρ b) <;> simp only [e] at hroom hk
          all_goals first | exact hroom.elim | skip
          cases e' : h' b <;> simp only [e'] at hk ⊢
          all_goals first | exact hk.elim | skip
          rw [← hk.1]; exact hroom
      | slz hz =>
        simp only [Value.slice.injEq, Option.some.injEq] at hv
        obtain ⟨rfl, rfl, rfl⟩ := hv
        exact .slz (hasB_out hb).1
      | _ => cases hv
  | map r =>
    cases r with
    | none => cases hr; exact .map0
    | some r =>
      cases hr with
      | map h1 hm hb =>
        obtain ⟨g1, g2⟩ := hasB_out (show hasB h' nb' r = true from hi)
        have hk := wObjR_kind (hh r g1) g2
        unfold SameKind at hk
        refine .map g1 ?_ hb
        cases e : h (ρ r) <;> simp only [e] at hk hm
        all_goals first | (simp [isMap] at hm; done) | exact hk
  | _ => simp [idsIn0] at hi

theorem ren_rv (hh : ∀ b, b < nb' → wObjR b0 ρ h' nb' b (h (ρ b)) (h' b)) {v v' : Value} (hr : RV β h nb (ren ρ v) v') (hi : idsIn h' nb' v = true) : RV (fun b => β (ρ b)) h' nb' v v' := by
  have key : ∀ {l l' : List Value}, l.length = l'.length → (∀ i, i < (l.map (ren0 ρ)).length → RV β h nb ((l.map (ren0 ρ)).getD i undef) (l'.getD i undef)) → l.all (idsIn0 h' nb') = true → ∀ i, i < l.length → RV (fun b => β (ρ b)) h' nb' (l.getD i undef) (l'.getD i undef) := by
    intro l l' hl h1 h2 i hi
    refine ren_rv0 (nb := nb) hh ?_ (getD_all h2 hi)
    have := h1 i (by simpa using hi)
    simpa [List.getD_eq_getElem?_getD, hi] using this
  cases v with
  | agg cs =>
    obtain ⟨l⟩ := cs
    cases hr with
    | agg hl h1 => exact .agg (by simpa using hl) (key (by simpa using hl) h1 hi)
  | func fn f c =>
    obtain ⟨f⟩ := f
    obtain ⟨c⟩ := c
    simp only [idsIn, Bool.and_eq_true] at hi
    cases hr with
    | func fn h1 h2 h3 h4 => exact .func fn (by simpa using h1) (key (by simpa using h1) h2 hi.1) (by simpa using h3) (key (by simpa using h3) h4 hi.2)
  | _ => exact ren_rv0 hh hr hi

theorem heapR_at : ∀ {n : Nat}, heapR b0 ρ h h' nb' n → ∀ b, b < n → wObjR b0 ρ h' nb' b (h (ρ b)) (h' b)
  | 0, _, b, hb => absurd hb (Nat.not_lt_zero _)
  | n + 1, hw, b, hb => by
    rcases Nat.lt_or_ge b n with h1 | h1
    · exact heapR_at hw.2 b h1
    · obtain rfl : b = n := by omega
      exact hw.1

structure RenOk (ρ : Nat → Nat) (b0 nb nb' : Nat) : Prop where
  le : b0 ≤ nb'
  lt : ∀ b, b < nb' → ρ b < nb
  fix : ∀ b, b < b0 → ρ b = b
  inj : ∀ b c, b < nb' → c < nb' → ρ b = ρ c → b = c

theorem renOk_out {R : List (Nat × Nat)} (h : renOk R b0 nb nb' = true) : RenOk (renF R) b0 nb nb' := by
  unfold renOk at h
  split at h
  · simp only [Bool.and_eq_true, Nat.ble_eq] at h
    exact ⟨h.1, fun b hb => Nat.lt_of_lt_of_le hb h.2, fun _ _ => rfl, fun _ _ _ _ e => e⟩
  · simp only [Bool.and_eq_true, Nat.ble_eq, List.all_eq_true, List.mem_range, Nat.blt_eq, Bool.or_eq_true, Nat.beq_eq_true_eq, Bool.not_eq_true'] at h
    obtain ⟨h1, h2⟩ := h
    refine ⟨h1, fun b hb => (h2 b hb).1.1, fun b hb => ?_, fun b c hb hc e => ?_⟩
    · rcases (h2 b (by omega)).1.2 with h3 | h3
      · omega
      · exact Nat.eq_of_beq_eq_true h3
    · rcases (h2 b hb).2 c hc with h3 | h3
      · exact Nat.eq_of_beq_eq_true h3
      · rw [e] at h3; simp at h3

theorem ren_rel (hρ : RenOk ρ b0 nb nb') {w : World} (hh : ∀ b, b < nb' → wObjR b0 ρ h' nb' b (h (ρ b)) (h' b)) (R : Rel Fb β h nb w) : Rel Fb (fun b => β (ρ b)) h' nb' w := by
  have objs : ∀ b, b < nb' → ObjOk (fun b => β (ρ b)) h' nb' w b := by
    intro b hb
    have h0 := R.objs (ρ b) (hρ.lt b hb)
    have hw := hh b hb
    unfold ObjOk at h0 ⊢
    cases e : h' b with
    | none => trivial
    | cells o fl n g =>
      rw [e] at hw
      obtain ⟨o', fl', n', g', ha, hc⟩ := wObjR_cells hw
      simp only [ha] at h0
      obtain ⟨C, t, fz, q1, q2, q3, q4, q5, q6, q7⟩ := h0
      have hl := hc.len
      subst hl
      refine ⟨C, t, fz, q1, q2, q3, fun i hi => ?_, fun ho => q5 (hc.own ho), hc.flat q6, hc.ok q7⟩
      obtain ⟨v', r1, r2⟩ := q4 i hi
      refine ⟨v', r1, ?_⟩
      rcases hc.at' q6 i hi with ⟨h1, h2⟩ | ⟨h1, h2⟩
      · rw [h2] at r2
        rw [flat0_eq r2 h1]; exact flat0_refl h1
      · rw [h2] at r2
        exact ren_rv hh r2 h1
    | map fl es =>
      rw [e] at hw
      obtain ⟨rfl, ha⟩ := wObjR_map hw
      simp only [ha] at h0
      obtain ⟨E, clk, q1, ⟨q2, q3, q4, q5⟩, q6⟩ := h0
      refine ⟨E, clk, q1, ⟨q2, fun i hi => ?_, q4, q5⟩, fun _ => q6 trivial⟩
      have hf := q6 trivial i hi
      have := q3 i hi
      rw [flat1_eq this.1 hf.1, flat1_eq this.2 hf.2]
      exact ⟨flat1_refl hf.1, flat1_refl hf.2⟩
    | iter m n seen =>
      rw [e] at hw
      obtain ⟨hm, ha⟩ := wObjR_iter hw
      simp only [ha] at h0
      obtain ⟨g1, g2⟩ := hasB_out hm
      obtain ⟨s, l, S, q1, q2, q3, E, clk, q4⟩ := h0
      have hk := wObjR_kind (hh m g1) g2
      unfold SameKind at hk
      refine ⟨s, l, S, q1, g1, ?_, E, clk, q4⟩
      cases e2 : h (ρ m) <;> simp only [e2] at hk q3
      all_goals first | (simp [isMap] at q3; done) | exact hk
  refine ⟨objs, fun b c hb hc hne ho hn => ?_, R.floor.to (Nat.le_refl _) (fun _ _ _ => rfl) fun b hb ho => .inl ⟨ρ b, hρ.lt b hb, ?_, rfl⟩⟩
  rotate_left
  · have hnb : isNone (h' b) = false := by cases e : h' b <;> simp_all [isOwn, isNone]
    have k1 := wObjR_kind (hh b hb) hnb
    unfold SameKind at k1
    revert ho k1
    cases h' b <;> cases h (ρ b) <;> simp [isOwn, isMap]
    intro h1 _ h3; exact h3 h1
  have hnb : isNone (h' b) = false := by cases e : h' b <;> simp_all [isOwn, isNone]
  have k1 := wObjR_kind (hh b hb) hnb
  unfold SameKind at k1
  have k2 := wObjR_kind (hh c hc) hn
  unfold SameKind at k2
  refine R.inj (ρ b) (ρ c) (hρ.lt b hb) (hρ.lt c hc) (fun e => hne (hρ.inj b c hb hc e)) ?_ ?_
  · cases e : h (ρ b) <;> simp only [e] at k1
    · cases e2 : h' b <;> simp only [e2] at k1 ho
      exact k1.2 ho
    · rfl
    · rfl
  · cases e : h (ρ c) <;> simp only [e] at k2 <;> first | exact k2.elim | rfl

theorem ren_foot (hρ : RenOk ρ b0 nb nb') {W0 w : World} {β0 : Be} {H0 : Hp} {lo lo' : Nat} (hh : ∀ b, b < nb' → wObjR b0 ρ h' nb' b (h (ρ b)) (h' b)) (hl : lo' ≤ lo) (F : Foot W0 b0 β0 H0 lo β h nb w) : Foot W0 b0 β0 H0 lo' (fun b => β (ρ b)) h' nb' w := by
  have F := F.lo_mono hl
  refine ⟨F.size, F.keep, fun b hb => ?_, F.le, ⟨hρ.le, fun b hb => ?_⟩, F.same⟩
  · rcases F.new (ρ b) (hρ.lt b hb) with ⟨h1, h2⟩ | h1
    · have h3 : ρ b = b := hρ.inj _ _ (by have := hρ.le; omega) hb (hρ.fix _ h1)
      rw [h3] at h1 h2
      exact .inl ⟨h1, by simp only [h3]; exact h2⟩
    · exact .inr h1
  · have h1 := F.ext.obj b hb
    have h2 := hh b (Nat.lt_of_lt_of_le hb hρ.le)
    have h3 := hρ.fix b hb
    rw [h3] at h2
    unfold ObjExt at h1 ⊢
    simp only [h3]
    cases hn : isNone (h' b) with
    | true =>
      have e' : h' b = .none := by cases e : h' b <;> simp_all [isNone]
      rw [e'] at h2 ⊢
      unfold wObjR at h2
      simp only at h2
      cases e3 : h b with
      | none => rw [e3] at h1; exact h1
      | _ => rw [e3] at h2; simp only [Nat.ble_eq] at h2; omega
    | false =>
      have k := wObjR_kind h2 hn
      unfold SameKind at k
      cases e0 : H0 b <;> simp only [e0] at h1 ⊢
      all_goals
        cases e : h b <;> simp only [e] at h1 k
        all_goals first | exact h1.elim | skip
        cases e' : h' b <;> simp only [e'] at k ⊢
        all_goals first | exact k.elim | (simp [isMap] at k; done) | skip
      · rw [← k.1]; exact h1
      · exact h1
      · exact h1
end

/-! ### Cells of one kind -/

theorem intsOf_out {k : IntKind} : ∀ {cs : List Value} {m : List Int}, intsOf k cs = some m → m.length = cs.length ∧ ∀ i, i < cs.length → cs.getD i undef = .int k (m.getD i 0)
  | [], m, h => by obtain rfl := Option.some.inj h; exact ⟨rfl, fun i hi => absurd hi (by simp)⟩
  | v :: cs, m, h => by
    unfold intsOf at h
    cases v <;> simp only at h
    all_goals first | (cases h; done) | skip
    rename_i k' x
    by_cases hk : k' = k
    · simp only [hk, decide_true] at h
      cases e : intsOf k cs with
      | none => rw [e] at h; cases h
      | some m' =>
        rw [e] at h
        obtain rfl := Option.some.inj h
        obtain ⟨h1, h2⟩ := intsOf_out e
        refine ⟨by simp [h1], fun i hi => ?_⟩
        cases i with
        | zero => simp [hk]
        | succ i => simpa using h2 i (by simpa using hi)
    · simp only [hk, decide_false] at h
      cases h

theorem strsOf_out : ∀ {cs : List Value} {m : List ByteArray}, strsOf cs = some m → m.length = cs.length ∧ ∀ i, i < cs.length → cs.getD i undef = .string (m.getD i .empty)
  | [], m, h => by obtain rfl := Option.some.inj h; exact ⟨rfl, fun i hi => absurd hi (by simp)⟩
  | v :: cs, m, h => by
    unfold strsOf at h
    cases v <;> simp only at h
    all_goals first | (cases h; done) | skip
    rename_i x
    cases e : strsOf cs with
    | none => rw [e] at h; cases h
    | some m' =>
      rw [e] at h
      obtain rfl := Option.some.inj h
      obtain ⟨h1, h2⟩ := strsOf_out e
      refine ⟨by simp [h1], fun i hi => ?_⟩
      cases i with
      | zero => simp
      | succ i => simpa using h2 i (by simpa using hi)

theorem boolsOf_out : ∀ {cs : List Value} {m : List Bool}, boolsOf cs = some m → m.length = cs.length ∧ ∀ i, i < cs.length → cs.getD i undef = .bool (m.getD i false)
  | [], m, h => by obtain rfl := Option.some.inj h; exact ⟨rfl, fun i hi => absurd hi (by simp)⟩
  | v :: cs, m, h => by
    unfold boolsOf at h
    cases v <;> simp only at h
    all_goals first | (cases h; done) | skip
    rename_i x
    cases e : boolsOf cs with
    | none => rw [e] at h; cases h
    | some m' =>
      rw [e] at h
      obtain rfl := Option.some.inj h
      obtain ⟨h1, h2⟩ := boolsOf_out e
      refine ⟨by simp [h1], fun i hi => ?_⟩
      cases i with
      | zero => simp
      | succ i => simpa using h2 i (by simpa using hi)

theorem putL_length {α : Type} : ∀ (xs l : List α) (o : Nat), (putL l o xs).length = l.length
  | [], _, _ => rfl
  | x :: xs, l, o => by rw [putL, putL_length xs]; simp

theorem putL_getD {α : Type} (d : α) : ∀ (xs l : List α) (o i : Nat), o + xs.length ≤ l.length → (putL l o xs).getD i d = if o ≤ i ∧ i < o + xs.length then xs.getD (i - o) d else l.getD i d
  | [], l, o, i, _ => by
    rw [if_neg (by simp only [List.length_nil]; omega)]; rfl
  | x :: xs, l, o, i, h => by
    simp only [List.length_cons] at h
    rw [putL, putL_getD d xs _ _ _ (by simp; omega)]
    by_cases h1 : o + 1 ≤ i ∧ i < o + 1 + xs.length
    · rw [if_pos h1, if_pos (by simp; omega)]
      rw [show i - o = (i - (o + 1)) + 1 from by omega]
      simp
    · rw [if_neg h1]
      by_cases h2 : i = o
      · subst h2
        rw [if_pos (by simp only [List.length_cons]; omega)]
        simp [List.getD_eq_getElem?_getD, show i < l.length from by omega]
      · rw [if_neg (by simp; omega)]
        simp [List.getD_eq_getElem?_getD, List.getElem?_set, Ne.symm h2]

theorem Cel.put_ok {c : Cel} {o n : Nat} {cs : List Value} (h : c.ok n) : (c.put o cs).ok n := by
  cases c <;> simp only [Cel.put]
  · trivial
  all_goals (split <;> first | trivial | (simp only [Cel.ok] at h ⊢; rw [putL_length]; exact h))

theorem Cel.put_at {c : Cel} {o n : Nat} {cs : List Value} (h : c.ok n) (ho : o + cs.length ≤ n) (k : Nat) : (c.put o cs).at k = setCells c.at o cs k := by
  cases c <;> simp only [Cel.put, Cel.ok] at h ⊢
  · rfl
  all_goals
    split
    · rename_i m e
      first
        | (obtain ⟨h1, h2⟩ := intsOf_out e
           rw [setCells_at]; simp only [Cel.at]; rw [putL_getD _ _ _ _ _ (by omega), h1]
           by_cases hk : o ≤ k ∧ k < o + cs.length
           · rw [if_pos hk, if_pos hk, h2 _ (by omega)]
           · rw [if_neg hk, if_neg hk])
        | (obtain ⟨h1, h2⟩ := strsOf_out e
           rw [setCells_at]; simp only [Cel.at]; rw [putL_getD _ _ _ _ _ (by omega), h1]
           by_cases hk : o ≤ k ∧ k < o + cs.length
           · rw [if_pos hk, if_pos hk, h2 _ (by omega)]
           · rw [if_neg hk, if_neg hk])
        | (obtain ⟨h1, h2⟩ := boolsOf_out e
           rw [setCells_at]; simp only [Cel.at]; rw [putL_getD _ _ _ _ _ (by omega), h1]
           by_cases hk : o ≤ k ∧ k < o + cs.length
           · rw [if_pos hk, if_pos hk, h2 _ (by omega)]
           · rw [if_neg hk, if_neg hk])
    · rfl

theorem getD_sub {α : Type} (d : α) (l : List α) (o m k : Nat) (hk : k < m) : ((l.drop o).take m).getD k d = l.getD (o + k) d := by
  simp [List.getD_eq_getElem?_getD, List.getElem?_take, hk, List.getElem?_drop]

theorem Cel.sub_ok {c : Cel} {o m n : Nat} (h : c.ok n) (ho : o + m ≤ n) : (c.sub o m).ok m := by
  cases c <;> simp only [Cel.sub, Cel.ok] at h ⊢
  all_goals (rw [List.length_take, List.length_drop]; omega)

theorem Cel.sub_at {c : Cel} {o m k : Nat} (hk : k < m) : (c.sub o m).at k = c.at (o + k) := by
  cases c <;> simp only [Cel.sub, Cel.at]
  all_goals rw [getD_sub _ _ _ _ _ hk]

theorem Cel.app_ok {c d : Cel} {o m n n' : Nat} (h : c.ok n) (h' : d.ok n') (ho : o + m ≤ n') : (c.app n d o m).ok (n + m) := by
  cases c <;> cases d <;> simp only [Cel.app, Cel.mix, Cel.ok] at h h' ⊢
  case ints.ints k l k' l' =>
    by_cases hk : k = k'
    · simp only [hk, decide_true]; rw [List.length_append, List.length_take, List.length_drop]; omega
    · simp only [hk, decide_false]
  all_goals first | trivial | (rw [List.length_append, List.length_take, List.length_drop]; omega)

theorem getD_app {α : Type} (d : α) (l l' : List α) (n o m k : Nat) (hl : l.length = n) (hk : k < n + m) : (l ++ (l'.drop o).take m).getD k d = bif Nat.blt k n then l.getD k d else l'.getD (o + (k - n)) d := by
  subst hl
  cases e : Nat.blt k l.length with
  | true =>
    have : k < l.length := by simpa using e
    simp [List.getD_eq_getElem?_getD, List.getElem?_append_left this]
  | false =>
    have h1 : l.length ≤ k := by
      rcases Nat.lt_or_ge k l.length with h | h
      · rw [show Nat.blt k l.length = true from by simpa using h] at e; cases e
      · exact h
    have := getD_sub d l' o m (k - l.length) (by omega)
    rw [cond_false, ← this]
    simp [List.getD_eq_getElem?_getD, List.getElem?_append_right h1]

theorem Cel.app_at {c d : Cel} {o m n k : Nat} (h : c.ok n) (hk : k < n + m) : (c.app n d o m).at k = bif Nat.blt k n then c.at k else d.at (o + (k - n)) := by
  cases c <;> cases d <;> simp only [Cel.app, Cel.mix, Cel.at, Cel.ok] at h ⊢
  case ints.ints kd l kd' l' =>
    by_cases hd : kd = kd'
    · simp only [hd, decide_true]
      rw [getD_app _ _ _ _ _ _ _ h hk]
      cases Nat.blt k n <;> rfl
    · simp only [hd, decide_false, Cel.at]
  all_goals (rw [getD_app _ _ _ _ _ _ _ h hk]; cases Nat.blt k n <;> rfl)

theorem celOf_ok {z l : List Value} {n : Nat} (hn : l.length = n) : (celOf z l).ok n := by
  unfold celOf
  split
  · split
    · rename_i e; exact (intsOf_out e).1.trans hn
    · trivial
  · split
    · rename_i e; exact (strsOf_out e).1.trans hn
    · trivial
  · split
    · rename_i e; exact (boolsOf_out e).1.trans hn
    · trivial
  · trivial

theorem celOf_at {z l : List Value} {k : Nat} (hk : k < l.length) : (celOf z l).at k = l.getD k undef := by
  unfold celOf
  split
  · split
    · rename_i e; exact ((intsOf_out e).2 k hk).symm
    · rfl
  · split
    · rename_i e; exact ((strsOf_out e).2 k hk).symm
    · rfl
  · split
    · rename_i e; exact ((boolsOf_out e).2 k hk).symm
    · rfl
  · rfl

theorem celRep_ok {z : List Value} {n : Nat} : (celRep z n).ok n := by
  unfold celRep
  split
  · simp [Cel.ok]
  · simp [Cel.ok]
  · simp [Cel.ok]
  · split
    · split
      · split
        · simp [Cel.ok]
        · trivial
      · trivial
    · trivial

theorem getD_rep {α : Type} (d x : α) {n k : Nat} (hk : k < n) : (List.replicate n x).getD k d = x := by
  simp [List.getD_eq_getElem?_getD, hk]

theorem celRep_at {z : List Value} {n k : Nat} (hz : 0 < z.length) (hk : k < n) : (celRep z n).at k = z.getD (k % z.length) undef := by
  unfold celRep
  split
  · simp only [Cel.at]; rw [getD_rep _ _ hk]; simp [Nat.mod_one]
  · simp only [Cel.at]; rw [getD_rep _ _ hk]; simp [Nat.mod_one]
  · simp only [Cel.at]; rw [getD_rep _ _ hk]; simp [Nat.mod_one]
  · split
    · split
      · rename_i m e
        split
        · rename_i h0
          obtain ⟨h1, h2⟩ := intsOf_out e
          have h3 := Nat.mod_lt k hz
          rw [h2 _ h3]
          simp only [Cel.at]; rw [getD_rep _ _ hk]
          have h4 : ∀ x ∈ m, x = 0 := fun x hx => by simpa using List.all_eq_true.1 h0 x hx
          have h5 : ∀ j, j < m.length → m.getD j 0 ∈ m := fun j hj => by
            rw [List.getD_eq_getElem?_getD, List.getElem?_eq_getElem hj]
            exact List.getElem_mem _
          rw [h4 _ (h5 _ (by rw [h1]; exact h3))]
        · rfl
      · rfl
    · rfl

end Go.Eng
