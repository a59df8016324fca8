/- A part of the interpreter of Go code, and of the proof that it says what Go does; no condition. -/
import Derived.Test.YtnnfbgonjonflaaEng3
import Derived.MapKept
/-! Maps: what is looked up. -/
set_option linter.unusedSimpArgs false
set_option linter.unusedVariables false
namespace Go.Eng
variable {Fb : Nat}
variable {P : Program} {T : TT} {β : Be} {H : Hp} {nb : Nat} {W : World} {a : Act} {fr : Fr}

theorem eqV_iff {a b : Value} : eqV a b = true ↔ a = b := by unfold eqV; simp
theorem eqV_self (a : Value) : eqV a a = true := eqV_iff.2 rfl
theorem eqV_no {a b : Value} (h : a ≠ b) : eqV a b = false := by
  cases e : eqV a b with
  | false => rfl
  | true => exact absurd (eqV_iff.1 e) h

noncomputable def posE : List (Value × Value) → Value → Option Nat
  | [], _ => none
  | e :: r, x => bif eqV e.1 x then some 0 else (posE r x).map (· + 1)

theorem posE_lt : ∀ {es : List (Value × Value)} {x : Value} {j : Nat}, posE es x = some j → j < es.length ∧ (es.getD j (undef, undef)).1 = x
  | [], _, _, h => by cases h
  | e :: r, x, j, h => by
    unfold posE at h
    cases ek : eqV e.1 x <;> rw [ek] at h <;> simp only [cond_true, cond_false] at h
    · obtain ⟨i, h1, rfl⟩ := Option.map_eq_some_iff.1 h
      obtain ⟨h2, h3⟩ := posE_lt h1
      exact ⟨by simp; omega, by simpa using h3⟩
    · obtain rfl := Option.some.inj h
      exact ⟨by simp, by simpa using eqV_iff.1 ek⟩
theorem getE_pos : ∀ {es : List (Value × Value)} {x : Value}, getE es x = (posE es x).map fun j => (es.getD j (undef, undef)).2
  | [], _ => rfl
  | e :: r, x => by
    unfold getE posE
    cases ek : eqV e.1 x <;> simp only [cond_true, cond_false]
    · rw [getE_pos (es := r), Option.map_map]
      congr 1
    · rfl
theorem idxE_pos : ∀ {es : List (Value × Value)} {x : Value} {j : Nat}, posE es x = some j → idxE es x = j
  | [], _, _, h => by cases h
  | e :: r, x, j, h => by
    unfold posE at h
    unfold idxE
    cases ek : eqV e.1 x <;> rw [ek] at h <;> simp only [cond_true, cond_false] at h ⊢
    · obtain ⟨i, h1, rfl⟩ := Option.map_eq_some_iff.1 h
      rw [idxE_pos h1]
    · exact Option.some.inj h
theorem setE_pos : ∀ {es : List (Value × Value)} {x v : Value}, setE es x v = match posE es x with | some j => es.set j ((es.getD j (undef, undef)).1, v) | none => es ++ [(x, v)]
  | [], _, _ => rfl
  | e :: r, x, v => by
    unfold setE posE
    cases ek : eqV e.1 x <;> simp only [cond_true, cond_false]
    · rw [setE_pos (es := r)]
      cases posE r x <;> simp
    · simp

theorem kindsB_eqC : ∀ {ds : List TypeDesc} {l m : List Value}, kindsB ds l = true → kindsB ds m = true → ∃ r, eqC ds l m = some r ∧ (r = true ↔ l = m)
  | [], l, m, h1, h2 => by
    cases l <;> cases m <;> simp [kindsB] at h1 h2
    exact ⟨true, rfl, by simp⟩
  | d :: ds, l, m, h1, h2 => by
    cases l with
    | nil => cases d <;> simp [kindsB] at h1
    | cons x l =>
    cases m with
    | nil => cases d <;> simp [kindsB] at h2
    | cons y m =>
    cases d <;> cases x <;> simp [kindsB] at h1 <;> cases y <;> simp [kindsB] at h2
    · obtain ⟨r, e1, e2⟩ := kindsB_eqC h1 h2
      refine ⟨_, by simp only [eqC, e1, Option.map_some]; rfl, ?_⟩
      simp [e2]
    · obtain ⟨rfl, h1⟩ := h1
      obtain ⟨rfl, h2⟩ := h2
      obtain ⟨r, e1, e2⟩ := kindsB_eqC h1 h2
      refine ⟨_, by simp only [eqC, e1, Option.map_some, if_true]; rfl, ?_⟩
      simp [e2]
    · obtain ⟨r, e1, e2⟩ := kindsB_eqC h1 h2
      refine ⟨_, by simp only [eqC, e1, Option.map_some]; rfl, ?_⟩
      simp [e2]
theorem kindsB_flat : ∀ {ds : List TypeDesc} {l : List Value}, kindsB ds l = true → l.all flat0 = true ∧ l.length = ds.length
  | [], l, h => by cases l <;> simp [kindsB] at h ⊢
  | d :: ds, l, h => by
    cases l with
    | nil => cases d <;> simp [kindsB] at h
    | cons x l =>
    cases d <;> cases x <;> simp [kindsB] at h
    · obtain ⟨h1, h2⟩ := kindsB_flat h
      simp [h1, h2, flat0]
    · obtain ⟨h1, h2⟩ := kindsB_flat h.2
      simp [h1, h2, flat0]
    · obtain ⟨h1, h2⟩ := kindsB_flat h
      simp [h1, h2, flat0]

theorem keyB_out {tk : TI} {v : Value} (h : keyB tk v = true) : tk.cmp ≠ [] ∧ ∃ l, v = .agg ⟨l⟩ ∧ kindsB tk.cmp l = true := by
  unfold keyB at h
  cases e : tk.cmp with
  | nil => rw [e] at h; cases h
  | cons d ds =>
    rw [e] at h
    cases v <;> simp only at h
    all_goals first | (cases h; done) | skip
    rename_i cs
    obtain ⟨l⟩ := cs
    exact ⟨by simp, l, rfl, h⟩
theorem keyB_flat {tk : TI} {v : Value} (h : keyB tk v = true) : flat1 v = true := by
  obtain ⟨_, l, rfl, hl⟩ := keyB_out h
  exact (kindsB_flat hl).1

/-- The entries, as the walk knows them. -/
def KeysAre (E : List MapEntry) (es : List (Value × Value)) : Prop := E.length = es.length ∧ ∀ j, j < es.length → (E.getD j default).key = (es.getD j (undef, undef)).1

theorem findAsking_out {kt : Nat} {tk : TI} (hc : CmpOk P kt tk.cmp) {key : Value} (hk : keyB tk key = true) : ∀ (E : List MapEntry) (es : List (Value × Value)) (i : Nat) (w : World), KeysAre E es → keysOk tk es →
    (Instr.findAsking kt key E i).run P w = .ok ((posE es key).map fun j => (i + j, (E.getD j default).val)) w
  | [], es, i, w, h, _ => by
    have : es = [] := List.eq_nil_of_length_eq_zero h.1.symm
    subst this
    simp [Instr.findAsking, posE]
  | e :: E, es, i, w, h, hok => by
    cases es with
    | nil => have := h.1; simp at this
    | cons p es =>
    have hp : e.key = p.1 := by simpa using h.2 0 (by simp)
    have ht : KeysAre E es := ⟨by simpa using h.1, fun j hj => by simpa using h.2 (j + 1) (by simpa using hj)⟩
    obtain ⟨_, l, rfl, hl⟩ := keyB_out hk
    obtain ⟨_, m, hm1, hm⟩ := keyB_out (hok p (by simp))
    obtain ⟨r, e1, e2⟩ := kindsB_eqC hl hm
    have hr := hc.2.1 _ _ _ w e1
    have hv : eqV p.1 (.agg ⟨l⟩) = r := by
      rw [hm1]
      cases r with
      | true => rw [e2.1 rfl]; exact eqV_self _
      | false =>
        exact eqV_no fun he => by
          simp only [Value.agg.injEq, Array.mk.injEq] at he
          have := e2.2 he.symm; cases this
    unfold posE
    rw [hv]
    simp only [Instr.findAsking, Sem.run_bind, hp, hm1, hr, Result.andThen_ok]
    cases r with
    | true => simp
    | false =>
      have := findAsking_out hc hk E es (i + 1) w ht (fun q hq => hok q (by simp [hq]))
      simp only [Bool.false_eq_true, if_false, this, cond_false, Option.map_map]
      cases posE es (.agg ⟨l⟩) with
      | none => rfl
      | some j =>
        simp only [Option.map_some, Function.comp, List.getD_cons_succ, show i + 1 + j = i + (j + 1) by omega]

theorem findKey_out {kt : Nat} {tk : TI} (hc : CmpOk P kt tk.cmp) {key : Value} (hk : keyB tk key = true) {E : List MapEntry} {es : List (Value × Value)} (h : KeysAre E es) (hok : keysOk tk es) (w : World) :
    (Instr.findKey kt key E).run P w = .ok ((posE es key).map fun j => (j, (E.getD j default).val)) w := by
  obtain ⟨d, hd, ha⟩ := hc.2.2.1
  have hs : ∀ a b, Instr.sameNow d a b = none := fun a b => by
    cases d <;> first | (cases ha; done) | (cases a <;> cases b <;> rfl)
  have := findAsking_out hc hk E es 0 w h hok
  simp only [Nat.zero_add] at this
  unfold Instr.findKey
  simp only [Sem.run_bind, run_und hd, Result.andThen_ok]
  cases E with
  | nil =>
    have : es = [] := List.eq_nil_of_length_eq_zero h.1.symm
    subst this
    simp [Instr.findNow, posE]
  | cons e E => simp only [Instr.findNow, hs, this]

/-- A map in memory. -/
theorem map_at {R' : World} (R : Rel Fb β H nb W) {r : Nat} (hr : r < nb) {fl : Bool} {es : List (Value × Value)} (e : H r = .map fl es) :
    ∃ E : Array MapEntry, W.heap[(β r).blk]? = some (.map E E.size) ∧ MapOk β H nb es E E.size ∧ (fl = true → ∀ i, i < es.length → flat1 (es.getD i (undef, undef)).1 = true ∧ flat1 (es.getD i (undef, undef)).2 = true) := by
  have := R.objs r hr
  unfold ObjOk at this
  rw [e] at this
  obtain ⟨E, clk, h1, h2, h3⟩ := this
  obtain rfl := h2.2.2.2
  exact ⟨E, h1, h2, h3⟩

theorem keys_are {es : List (Value × Value)} {E : Array MapEntry} {clk : Nat} (h : MapOk β H nb es E clk) {tk : TI} (hok : keysOk tk es) : KeysAre E.toList es := by
  refine ⟨by simpa using h.1, fun j hj => ?_⟩
  have h1 := (h.2.1 j hj).1
  have hm : es.getD j (undef, undef) ∈ es := by
    rw [List.getD_eq_getElem?_getD, List.getElem?_eq_getElem hj]; exact List.getElem_mem hj
  have := flat1_eq h1 (keyB_flat (hok _ hm))
  rw [← this]
  simp

theorem map_inv {r : Nat} {v' : Value} (h : RV β H nb (.map (some r)) v') : r < nb ∧ isMap (H r) = true ∧ v' = .map (some (β r).blk) := by
  cases h with
  | map h hm hb => exact ⟨h, hm, by rw [hb]⟩

theorem run_getMap {w : World} {b : Nat} {E : Array MapEntry} {c : Nat} (h : w.heap[b]? = some (.map E c)) : (getObj b).run P w = .ok (.map E c) w := by
  simp [getObj, Sem.run, h]
theorem run_getIter {w : World} {b : Nat} {m : Option Nat} {s l : Nat} {S : Array Nat} (h : w.heap[b]? = some (.mapIter m s S l)) : (getObj b).run P w = .ok (.mapIter m s S l) w := by
  simp [getObj, Sem.run, h]

theorem lookup_out {t : Nat} {x x' key key' : Value} {ok : Bool} {K : Value → Prop} (hT : TOk P T) (R : Rel Fb β H nb W) (hx : RV β H nb x x') (hk : RV β H nb key key') (h : alookup T t x key ok H K) :
    ∃ v v', K v ∧ RV β H nb v v' ∧ ∀ w, Keeps W w → (Instr.lookup t x' key' ok).run P w = .ok v' w := by
  have h9 := tyK_out h
  clear h
  obtain ⟨ti, hti, h⟩ := h9
  have hu := (hT _ _ hti).1
  cases ed : ti.desc <;> rw [ed] at h hu <;> simp only at h
  all_goals first | exact h.elim | skip
  rename_i kt et
  have h9 := tyK_out h
  clear h
  obtain ⟨tk, htk, h⟩ := h9
  have h9 := tyK_out h
  clear h
  obtain ⟨te, hte, h⟩ := h9
  have h9 := chk_out h
  clear h
  obtain ⟨hkb, h⟩ := h9
  split at h
  case h_2 => exact h.elim
  rename_i r
  obtain ⟨hr, _, rfl⟩ := map_inv hx
  cases er : H r <;> rw [er] at h <;> simp only at h
  rename_i fl es
  obtain ⟨hok, h⟩ := h
  have hkk := (flat1_eq hk (keyB_flat hkb)).symm
  subst hkk
  obtain ⟨E, q1, q2, q3⟩ := map_at (R' := W) R hr er
  have hlt := R.lt hr (by rw [er]; rfl)
  obtain ⟨hcmp, l, hl, hkinds⟩ := keyB_out hkb
  obtain ⟨_, ik, hik, _, _, _, _, _, hck⟩ := hT _ _ htk
  have hc := hck.1 hcmp
  obtain ⟨_, ie, hie, _, _, _, _, _, hze⟩ := hT _ _ hte
  have hz := hze.2
  have hchk : ∀ em w, (Instr.checkKey em 10000 kt key).run P w = .ok () w := fun em w => by
    rw [hl]; exact hc.2.2.2 em l w (kindsB_flat hkinds).2
  have hfind := fun w => findKey_out hc hkb (keys_are q2 hok) hok w
  have hrun : ∀ w, Keeps W w → (Instr.lookup t (.map (some (β r).blk)) key ok).run P w = .ok (match (posE es key).map fun j => (j, (E.toList.getD j default).val) with | some (_, v) => okV ok v true | none => okV ok (zeroV te.desc te.zero) false) w := fun w k => by
    have hb : w.heap[(β r).blk]? = some (.map E E.size) := by rw [k.heap _ hlt]; exact q1
    unfold Instr.lookup
    simp only [Sem.run_bind, run_und hu, Result.andThen_ok, run_getMap hb, Sem.run_pure, hchk, hfind]
    cases posE es key with
    | none =>
      simp only [Option.map_none, Sem.run_bind, zeroValue, run_ti hie, hz, Result.andThen_ok, Sem.run_pure, okV]
      cases ok <;> rfl
    | some j =>
      simp only [Option.map_some, Sem.run_bind, Result.andThen_ok, Sem.run_pure, okV]
      cases ok <;> rfl
  have one : ∀ {v v' : Value} (b : Bool), RV β H nb v v' → RV β H nb (okV ok v b) (okV ok v' b) := fun {v v'} b hv => by
    unfold okV
    cases ok
    · exact hv
    · exact .tuple rfl fun i hi => by
        match i, hi with
        | 0, _ => simpa using hv
        | 1, _ => simpa using RV.bool b
  rcases h with ⟨v, e, k⟩ | ⟨e, k⟩
  · rw [getE_pos] at e
    obtain ⟨j, e1, e2⟩ := Option.map_eq_some_iff.1 e
    obtain ⟨hj, _⟩ := posE_lt e1
    have h5 := (q2.2.1 j hj).2
    rw [e2] at h5
    exact ⟨okV ok v true, okV ok (E.toList.getD j default).val true, k, one true (by simpa using h5), fun w kw => by rw [hrun w kw, e1]; rfl⟩
  · rw [getE_pos] at e
    have e1 : posE es key = none := by cases e2 : posE es key with
      | none => rfl
      | some j => rw [e2] at e; cases e
    exact ⟨okV ok (zeroV te.desc te.zero) false, okV ok (zeroV te.desc te.zero) false, k, one false (flat_refl (zero_flat hT hte)), fun w kw => by rw [hrun w kw, e1]; rfl⟩
where
  zero_flat {T : TT} (hT : TOk P T) {et : Nat} {te : TI} (hte : T et = some te) : flat (zeroV te.desc te.zero) = true := by
    obtain ⟨_, ie, hie, hs, _, ⟨z, hz1, hz2⟩, _, hall, hze⟩ := hT _ _ hte
    have hz := hze.2
    rw [hz1] at hz
    have hz := Option.some.inj hz
    rw [hz] at hz2
    unfold zeroV at hz2 ⊢
    cases ha : isAgg te.desc <;> rw [ha] at hz2 <;> simp only at hz2 ⊢
    · cases hl : te.zero with
      | nil => rw [hl] at hz2; simp [Value.cells] at hz2; rfl
      | cons v l =>
        have h0 : flat0 v = true := by rw [hl] at hall; simp at hall; exact hall.1
        show flat v = true
        cases v <;> first | rfl | exact h0 | (simp [flat0] at h0)
    · exact hall

theorem find_at {E : Array MapEntry} (hb : ∀ i, i < E.size → (E.getD i default).born = i) {i : Nat} (hi : i < E.size) : E.find? (fun x => x.born == i) = some (E.getD i default) := by
  have hbe : ∀ j (hj : j < E.size), E[j].born = j := fun j hj => by have := hb j hj; simpa [Array.getD, hj] using this
  rw [← Array.find?_toList, List.find?_eq_some_iff_getElem]
  refine ⟨by rw [hb i hi]; simp, i, by simpa using hi, by simp [Array.getD, hi], fun j hj => ?_⟩
  have hj' : j < E.size := by omega
  have := hbe j hj'
  simp only [Array.getElem_toList, this]
  simp; omega

theorem iter_at (R : Rel Fb β H nb W) {b : Nat} (hb : b < nb) {m n : Nat} {seen : List Nat} (e : H b = .iter m n seen) :
    ∃ E : Array MapEntry, W.heap[(β b).blk]? = some (.mapIter (some (β m).blk) n ⟨seen.reverse⟩ n) ∧ m < nb ∧ isMap (H m) = true ∧ W.heap[(β m).blk]? = some (.map E n) ∧ E.size = n ∧ (∀ i, i < E.size → (E.getD i default).born = i) ∧ (∀ i ∈ seen, i < n) ∧
      ∀ fl es, H m = .map fl es → MapOk β H nb es E n := by
  have := R.objs b hb
  unfold ObjOk at this
  rw [e] at this
  obtain ⟨since, last, Seen, h1, h2, h3, E, clk, h4, h5, e6, e7, h8, h9⟩ := this
  have h0 := R.objs m h2
  unfold ObjOk at h0
  cases em : H m <;> rw [em] at h0 h3 <;> simp only [isMap] at h3
  all_goals first | (cases h3; done) | skip
  rename_i fl es
  obtain ⟨E', clk', g1, g2, _⟩ := h0
  rw [h4] at g1
  simp only [Option.some.injEq, Obj.map.injEq] at g1
  obtain ⟨hE, hclk⟩ := g1
  rw [← hE, ← hclk] at g2
  have hs : Seen = ⟨seen.reverse⟩ := Array.toList_inj.1 h8
  have hn : clk = n := g2.2.2.2.trans h5
  refine ⟨E, by rw [h1, hs, e6, e7, hn], h2, rfl, by rw [h4, hn], h5, g2.2.2.1, h9, fun fl' es' he => ?_⟩
  simp only [AObj.map.injEq] at he
  obtain ⟨rfl, rfl⟩ := he
  rw [hn] at g2
  exact g2

theorem iter_inv {b : Nat} {v' : Value} {m n : Nat} {seen : List Nat} (e : H b = .iter m n seen) (h : RV β H nb (.pointer (some ⟨b, 0, none⟩)) v') : b < nb ∧ v' = .pointer (some ⟨(β b).blk, 0, none⟩) := by
  cases h with
  | ptr ha =>
    obtain ⟨h1, _, h2⟩ := ha
    rw [e] at h2
    exact ⟨h1, by rw [h2]⟩

theorem entry_out {it it' : Value} {K : Value → Prop} (R : Rel Fb β H nb W) (hx : RV β H nb it it') (h : aentry it H K) :
    ∃ v v', K v ∧ RV β H nb v v' ∧ ∀ w, Keeps W w → (Instr.entry it').run P w = .ok v' w := by
  unfold aentry at h
  split at h
  case h_2 => exact h.elim
  rename_i b
  cases eb : H b <;> rw [eb] at h <;> simp only at h
  rename_i m n seen
  cases seen with
  | nil => exact h.elim
  | cons i seen =>
  simp only at h
  cases em : H m <;> rw [em] at h <;> simp only at h
  rename_i fl es
  obtain ⟨hb, rfl⟩ := iter_inv eb hx
  obtain ⟨E, h1, h2, h3, h4, h5, h6, h7, h8⟩ := iter_at R hb eb
  have hM := h8 _ _ em
  obtain ⟨k, v, e, h⟩ := h
  have hi : i < n := h7 i (by simp)
  have hie : i < es.length := by rw [← hM.1]; omega
  have hlb := R.lt hb (by rw [eb]; rfl)
  have hlm := R.lt h2 (by rw [em]; rfl)
  have hrv := hM.2.1 i hie
  have hes : es.getD i (undef, undef) = (k, v) := by rw [List.getD_eq_getElem?_getD, e]; rfl
  rw [hes] at hrv
  refine ⟨.tuple ⟨[k, v]⟩, .tuple ⟨[(E.getD i default).key, (E.getD i default).val]⟩, h, .tuple rfl fun j hj => ?_, fun w kw => ?_⟩
  · match j, hj with
    | 0, _ => exact hrv.1
    | 1, _ => exact hrv.2
  · have hb' := kw.heap _ hlb
    have hm' := kw.heap _ hlm
    rw [h1] at hb'
    rw [h4] at hm'
    have hback : (⟨(i :: seen).reverse⟩ : Array Nat).back? = some i := by simp [Array.back?]
    unfold Instr.entry
    simp only [Sem.run_bind, run_getIter hb', Result.andThen_ok, hback, run_getMap hm', bne_self_eq_false, Bool.false_eq_true, if_false, find_at h6 (by omega : i < E.size), Sem.run_pure]
end Go.Eng
