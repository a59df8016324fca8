/- A part of the interpreter of Go code, and of the proof that it says what Go does; no condition. -/
import Derived.Test.YtnnfbgonjonflaaEng5
/-! Maps: what is written. -/
set_option linter.unusedSimpArgs false
set_option linter.unusedVariables false
namespace Go.Eng
variable {Fb : Nat}
variable {P : Program} {T : TT}

theorem noIter_out {H : Hp} {r : Nat} : ∀ {n : Nat}, noIter H r n = true → ∀ c, c < n → ∀ m k s, H c = .iter m k s → m ≠ r
  | 0, _, c, hc, _, _, _, _ => absurd hc (Nat.not_lt_zero _)
  | n + 1, h, c, hc, m, k, s, e => by
    unfold noIter at h
    simp only [Bool.and_eq_true] at h
    rcases Nat.lt_or_ge c n with h1 | h1
    · exact noIter_out h.2 c h1 m k s e
    · obtain rfl : c = n := by omega
      intro he
      subst he
      rw [e] at h
      simp at h

/-- A new block that is no row of cells. -/
theorem Rel.allocObj {β : Be} {H : Hp} {nb : Nat} {w : World} (R : Rel Fb β H nb w) {O : Obj} {o : AObj}
    (hob : ObjOk (upd β nb ⟨w.heap.size, 0, 0⟩) (upd H nb o) (nb + 1) (w.alloc O) nb) :
    Rel Fb (upd β nb ⟨w.heap.size, 0, 0⟩) (upd H nb o) (nb + 1) (w.alloc O) := by
  have e := ext_alloc (β := β) (H := H) (nb := nb) ⟨w.heap.size, 0, 0⟩ o
  refine ⟨fun b hb => ?_, fun b b' hb hb' hne ho hn => ?_, R.floor.to (keeps_alloc _ _).size (fun j hj _ => (keeps_alloc _ _).heap j hj) fun b hb ho => ?_⟩
  · rcases Nat.lt_or_ge b nb with hlt | hge
    · have hn : b ≠ nb := Nat.ne_of_lt hlt
      refine ObjOk.ext' hlt e (upd_ne _ _ hn) (upd_ne _ _ hn) (fun m hm _ => ⟨upd_ne _ _ (Nat.ne_of_lt hm), upd_ne _ _ (Nat.ne_of_lt hm)⟩) ?_
      exact ObjOk.keep (keeps_alloc _ _) R hlt
    · obtain rfl : b = nb := by omega
      exact hob
  · rcases Nat.lt_or_ge b nb with hlt | hge
    · rcases Nat.lt_or_ge b' nb with hlt' | hge'
      · rw [upd_ne _ _ (Nat.ne_of_lt hlt), upd_ne _ _ (Nat.ne_of_lt hlt')]
        rw [upd_ne _ _ (Nat.ne_of_lt hlt)] at ho
        rw [upd_ne _ _ (Nat.ne_of_lt hlt')] at hn
        exact R.inj b b' hlt hlt' hne ho hn
      · obtain rfl : b' = nb := by omega
        rw [upd_ne _ _ (Nat.ne_of_lt hlt), upd_same]
        rw [upd_ne _ _ (Nat.ne_of_lt hlt)] at ho
        have := R.lt hlt (by cases e2 : H b <;> simp_all [isOwn, isNone])
        simp only; omega
    · obtain rfl : b = nb := by omega
      have hlt' : b' < b := by omega
      rw [upd_ne _ _ (Nat.ne_of_lt hlt'), upd_same]
      rw [upd_ne _ _ (Nat.ne_of_lt hlt')] at hn
      have := R.lt hlt' hn
      simp only; omega
  · rcases Nat.lt_or_ge b nb with hlt | hge
    · have hn : b ≠ nb := Nat.ne_of_lt hlt
      rw [upd_ne _ _ hn] at ho
      exact .inl ⟨b, hlt, ho, by rw [upd_ne _ _ hn]⟩
    · obtain rfl : b = nb := by omega
      rw [upd_same]; exact .inr (Nat.le_refl _)

/-- A map, or a range, says something else now. -/
theorem Rel.putObj {β : Be} {H : Hp} {nb : Nat} {w : World} (R : Rel Fb β H nb w) {b : Nat} {o o' : AObj} {O : Obj} (hb : b < nb) (e : H b = o)
    (hk : (isMap o = true ∧ isMap o' = true ∧ ∀ c, c < nb → ∀ m k s, H c = .iter m k s → m ≠ b) ∨ (∃ m n s s', o = .iter m n s ∧ o' = .iter m n s'))
    (hob : Ext β H nb β (upd H b o') nb → ObjOk β (upd H b o') nb { w with heap := w.heap.setIfInBounds (β b).blk O } b) :
    Rel Fb β (upd H b o') nb { w with heap := w.heap.setIfInBounds (β b).blk O } ∧
    Foot w nb β H b β (upd H b o') nb { w with heap := w.heap.setIfInBounds (β b).blk O } := by
  have kinds : isOwn o = true ∧ isOwn o' = true ∧ isNone o = false ∧ isNone o' = false ∧ ObjExt β β b o o' := by
    rcases hk with ⟨h1, h2, _⟩ | ⟨m, n, s, s', rfl, rfl⟩
    · cases o <;> simp [isMap] at h1
      cases o' <;> simp [isMap] at h2
      exact ⟨rfl, rfl, rfl, rfl, rfl⟩
    · exact ⟨rfl, rfl, rfl, rfl, rfl⟩
  obtain ⟨ko, ko', kn, kn', kx⟩ := kinds
  have ex : Ext β H nb β (upd H b o') nb := by
    refine ⟨Nat.le_refl _, fun c hc => ?_⟩
    by_cases h : c = b
    · subst h; rw [e, upd_same]; exact kx
    · unfold ObjExt; rw [upd_ne _ _ h]; cases H c <;> simp
  have hlt := R.lt hb (by rw [e]; exact kn)
  have hne : ∀ c', c' < nb → c' ≠ b → isNone (H c') = false → (β b).blk ≠ (β c').blk := fun c' hc' hne hnn => R.inj b c' hb hc' (Ne.symm hne) (by rw [e]; exact ko) hnn
  refine ⟨⟨fun c hc => ?_, fun c c' hc hc' hne ho hno => ?_, R.floor.to (by simp) (fun j hj hk => by
      have := hk b hb (by rw [e]; exact ko)
      simp only
      rw [Array.getElem?_setIfInBounds, if_neg this]) fun c hc ho => by
    by_cases h : c = b
    · subst h; exact .inl ⟨c, hc, by rw [e]; exact ko, rfl⟩
    · rw [upd_ne _ _ h] at ho; exact .inl ⟨c, hc, ho, rfl⟩⟩, by simp, fun j hj hk => ?_, fun c hc => .inl ⟨hc, rfl⟩, Nat.le_of_lt hb, ex, rfl, rfl, rfl⟩
  · by_cases h : c = b
    · subst h; exact hob ex
    · have h0 := R.objs c hc
      unfold ObjOk at h0 ⊢
      rw [upd_ne _ _ h]
      cases ec : H c <;> simp only [ec] at h0 ⊢
      · have := hne c hc h (by rw [ec]; rfl)
        rw [Array.getElem?_setIfInBounds, if_neg this]
        obtain ⟨C, t, fz, g1, g2, g3, g4, g5, g6⟩ := h0
        exact ⟨C, t, fz, g1, g2, g3, fun o ho => let ⟨v', q1, q2⟩ := g4 o ho; ⟨v', q1, q2.ext ex⟩, g5, g6⟩
      · have := hne c hc h (by rw [ec]; rfl)
        rw [Array.getElem?_setIfInBounds, if_neg this]
        obtain ⟨E, clk, g1, ⟨g2, g3, g4, g5⟩, g6⟩ := h0
        exact ⟨E, clk, g1, ⟨g2, fun i hi => ⟨(g3 i hi).1.ext ex, (g3 i hi).2.ext ex⟩, g4, g5⟩, g6⟩
      · have h7 := hne c hc h (by rw [ec]; rfl)
        rename_i m nn seen
        obtain ⟨s, l, S, g1, g2, g3, E, clk, g4, g5⟩ := h0
        have hm : m ≠ b := fun he => by
          rcases hk with ⟨_, _, h8⟩ | ⟨_, _, _, _, h8, _⟩
          · exact h8 c hc _ _ _ ec he
          · rw [he, e, h8] at g3; simp [isMap] at g3
        have := hne m g2 hm (by cases e2 : H m <;> simp_all [isMap, isNone])
        refine ⟨s, l, S, ?_, g2, by rw [upd_ne _ _ hm]; exact g3, E, clk, ?_, g5⟩
        · rw [Array.getElem?_setIfInBounds, if_neg h7]; exact g1
        · rw [Array.getElem?_setIfInBounds, if_neg this]; exact g4
  · have h1 : ∀ c, isOwn (upd H b o' c) = true → isOwn (H c) = true := fun c => by
      by_cases h : c = b
      · subst h; rw [e]; intro _; exact ko
      · rw [upd_ne _ _ h]; exact id
    have h2 : ∀ c, isNone (upd H b o' c) = false → isNone (H c) = false := fun c => by
      by_cases h : c = b
      · subst h; rw [e]; intro _; exact kn
      · rw [upd_ne _ _ h]; exact id
    exact R.inj c c' hc hc' hne (h1 c ho) (h2 c' hno)
  · have := hk b (Nat.le_refl _) hb
    simp only
    rw [Array.getElem?_setIfInBounds, if_neg this]

theorem sameBits_self : ∀ {ds : List TypeDesc} {l : List Value}, kindsB ds l = true → (l.zip l).all (fun x => Instr.sameBits 9999 x.1 x.2) = true
  | [], l, h => by cases l <;> simp [kindsB] at h ⊢
  | d :: ds, l, h => by
    cases l with
    | nil => cases d <;> simp [kindsB] at h
    | cons x l =>
    cases d <;> cases x <;> simp [kindsB] at h
    · have := sameBits_self h
      simpa [Instr.sameBits] using this
    · have := sameBits_self h.2
      simpa [Instr.sameBits] using this
    · have := sameBits_self h
      rename_i s
      have hs : (s == s) = true := by first | (simp; done) | (show (s.data == s.data) = true; simp; done)
      simpa [Instr.sameBits, hs] using this
theorem keyStays {tk : TI} {key : Value} (h : keyB tk key = true) (w : World) : (Instr.keyThatStays key key).run P w = .ok key w := by
  obtain ⟨_, l, rfl, hl⟩ := keyB_out h
  have h1 := sameBits_self hl
  unfold Instr.keyThatStays
  have : Instr.sameBits 10000 (.agg ⟨l⟩) (.agg ⟨l⟩) = true := by
    show ((Array.size ⟨l⟩ == Array.size ⟨l⟩) && (Array.toList ⟨l⟩ |>.zip (Array.toList ⟨l⟩)).all fun (x, y) => Instr.sameBits 9999 x y) = true
    simp only [beq_self_eq_true, Bool.true_and]
    exact h1
  rw [if_pos this]; rfl

/-- What an operation on a map needs. -/
structure MapAt (P : Program) (W : World) (β : Be) (H : Hp) (nb : Nat) (kt : Nat) (key : Value) (r : Nat) (fl : Bool) (es : List (Value × Value)) (E : Array MapEntry) : Prop where
  lt : r < nb
  at' : W.heap[(β r).blk]? = some (.map E E.size)
  ok : MapOk β H nb es E E.size
  flat : fl = true → ∀ i, i < es.length → flat1 (es.getD i (undef, undef)).1 = true ∧ flat1 (es.getD i (undef, undef)).2 = true
  check : ∀ em w, (Instr.checkKey em 10000 kt key).run P w = .ok () w
  find : ∀ w, (Instr.findKey kt key E.toList).run P w = .ok ((posE es key).map fun j => (j, (E.toList.getD j default).val)) w
  stays : ∀ w, (Instr.keyThatStays key key).run P w = .ok key w
  keys : KeysAre E.toList es
  kflat : flat1 key = true

theorem map_at_of {W : World} {β : Be} {H : Hp} {nb : Nat} {T : TT} (hT : TOk P T) (R : Rel Fb β H nb W) {kt : Nat} {tk : TI} (htk : T kt = some tk) {key : Value} (hkb : keyB tk key = true) {r : Nat} (hr : r < nb) {fl : Bool} {es : List (Value × Value)} (er : H r = .map fl es) (hok : keysOk tk es) :
    ∃ E, MapAt P W β H nb kt key r fl es E := by
  obtain ⟨E, q1, q2, q3⟩ := map_at (R' := W) R hr er
  obtain ⟨hcmp, l, hl, hkinds⟩ := keyB_out hkb
  obtain ⟨_, ik, hik, _, _, _, _, _, hck⟩ := hT _ _ htk
  have hc := hck.1 hcmp
  exact ⟨E, hr, q1, q2, q3, fun em w => by rw [hl]; exact hc.2.2.2 em l w (kindsB_flat hkinds).2, fun w => findKey_out hc hkb (keys_are q2 hok) hok w, fun w => keyStays hkb w, keys_are q2 hok, keyB_flat hkb⟩

theorem getD_set {α : Type} (l : List α) (j i : Nat) (v d : α) (hj : j < l.length) : (l.set j v).getD i d = if i = j then v else l.getD i d := by
  by_cases h : i = j
  · subst h; simp [List.getD_eq_getElem?_getD, hj]
  · rw [if_neg h]; simp [List.getD_eq_getElem?_getD, List.getElem?_set_ne (Ne.symm h)]
theorem getD_push {α : Type} (l : List α) (i : Nat) (v d : α) : (l ++ [v]).getD i d = if i = l.length then v else l.getD i d := by
  by_cases h : i = l.length
  · subst h; simp [List.getD_eq_getElem?_getD]
  · rw [if_neg h]
    rcases Nat.lt_or_ge i l.length with h1 | h1
    · simp [List.getD_eq_getElem?_getD, List.getElem?_append_left h1]
    · simp only [List.getD_eq_getElem?_getD]
      rw [List.getElem?_eq_none (by simp; omega), List.getElem?_eq_none h1]

/-- An entry's value is written. -/
theorem mapOk_set {β : Be} {H : Hp} {nb : Nat} {es : List (Value × Value)} {E : Array MapEntry} (h : MapOk β H nb es E E.size) {j : Nat} (hj : j < es.length) {v v' : Value} (hv : RV β H nb v v') (f : MapEntry → MapEntry)
    (hf : ∀ e : MapEntry, e = E.getD j default → (f e).key = e.key ∧ (f e).val = v' ∧ (f e).born = e.born) :
    (E.modify j f).size = E.size ∧ MapOk β H nb (es.set j ((es.getD j (undef, undef)).1, v)) (E.modify j f) (E.modify j f).size := by
  obtain ⟨h1, h2, h3, h4⟩ := h
  have hs : (E.modify j f).size = E.size := by simp
  have hjE : j < E.size := by omega
  have hg : ∀ i, (E.modify j f).getD i default = if i = j then f (E.getD j default) else E.getD i default := fun i => by
    rcases Nat.lt_or_ge i E.size with hi | hi
    · by_cases he : i = j
      · subst he; simp [Array.getD, hi, Array.getElem_modify]
      · rw [if_neg he]; simp [Array.getD, hi, Array.getElem_modify, Ne.symm he]
    · rw [if_neg (by omega)]; simp [Array.getD, Nat.not_lt.2 hi]
  have hfj := hf _ rfl
  refine ⟨hs, by rw [hs, h1]; simp, fun i hi => ?_, fun i hi => ?_, rfl⟩
  · rw [List.length_set] at hi
    rw [getD_set _ _ _ _ _ hj, hg]
    by_cases he : i = j
    · subst he
      rw [if_pos rfl, if_pos rfl, hfj.1, hfj.2.1]
      exact ⟨(h2 i hi).1, hv⟩
    · rw [if_neg he, if_neg he]; exact h2 i hi
  · rw [hs] at hi
    rw [hg]
    by_cases he : i = j
    · subst he; rw [if_pos rfl, hfj.2.2]; exact h3 i hi
    · rw [if_neg he]; exact h3 i hi

/-- A new entry. -/
theorem mapOk_push {β : Be} {H : Hp} {nb : Nat} {es : List (Value × Value)} {E : Array MapEntry} (h : MapOk β H nb es E E.size) {k k' v v' : Value} (hk : RV β H nb k k') (hv : RV β H nb v v') :
    MapOk β H nb (es ++ [(k, v)]) (E.push ⟨k', v', E.size⟩) (E.push ⟨k', v', E.size⟩).size := by
  obtain ⟨h1, h2, h3, h4⟩ := h
  have hg : ∀ i, (E.push ⟨k', v', E.size⟩).getD i default = if i = E.size then ⟨k', v', E.size⟩ else E.getD i default := fun i => by
    by_cases he : i = E.size
    · subst he; simp [Array.getD]
    · rw [if_neg he]
      rcases Nat.lt_or_ge i E.size with hi | hi
      · have : i < (E.push ⟨k', v', E.size⟩).size := by simp; omega
        simp [Array.getD, hi, this, Array.getElem_push]
        intro _; omega
      · have : ¬ i < (E.push ⟨k', v', E.size⟩).size := by simp; omega
        simp [Array.getD, Nat.not_lt.2 hi, this]
        intro _; omega
  refine ⟨by simp [h1], fun i hi => ?_, fun i hi => ?_, rfl⟩
  · rw [getD_push, hg, ← h1]
    by_cases he : i = E.size
    · rw [if_pos he, if_pos he]; exact ⟨hk, hv⟩
    · rw [if_neg he, if_neg he]
      simp only [List.length_append, List.length_singleton] at hi
      exact h2 i (by omega)
  · simp only [Array.size_push] at hi
    rw [hg]
    by_cases he : i = E.size
    · rw [if_pos he]; exact he.symm
    · rw [if_neg he]; exact h3 i (by omega)
end Go.Eng
