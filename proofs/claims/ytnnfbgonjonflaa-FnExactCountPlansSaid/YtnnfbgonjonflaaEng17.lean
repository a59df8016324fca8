/- A part of the interpreter of Go code, and of the proof that it says what Go does; no condition. -/
import Derived.Test.YtnnfbgonjonflaaEng2
import Derived.ChangeKeysEq
/-! Structs and arrays of integers, strings and bools, held against each other. -/
set_option linter.unusedSimpArgs false
set_option linter.unusedVariables false
namespace Go.Eng

mutual
def flatTys (P : Program) : Nat → Nat → Option (List TypeDesc)
  | 0, _ => none
  | f + 1, t => match P.underlying t with
    | some .bool => some [.bool]
    | some (.int k) => some [.int k]
    | some .string => some [.string]
    | some (.struct fs) => match structTys P f fs.toList 0 with
      | some l => bif Nat.beq l.length (P.cellsOf t) then some l else none
      | none => none
    | some (.array n e) => match flatTys P f e with
      | some l => bif Nat.beq l.length (P.cellsOf e) && Nat.beq (n * l.length) (P.cellsOf t) then some (List.replicate n l).flatten else none
      | none => none
    | _ => none
def structTys (P : Program) : Nat → List Field → Nat → Option (List TypeDesc)
  | 0, _, _ => none
  | _ + 1, [], _ => some []
  | f + 1, x :: xs, off =>
    match flatTys P f x.type with
    | some l => bif Nat.beq x.offset off && Nat.beq l.length (P.cellsOf x.type) then (match structTys P f xs (off + l.length) with | some m => some (l ++ m) | none => none) else none
    | none => none
end

mutual
/-- Its values can be compared, cell by cell. -/
def cmpTy (P : Program) : Nat → Nat → Bool
  | 0, _ => false
  | f + 1, t => match P.underlying t with
    | some .bool => true
    | some (.int _) => true
    | some .string => true
    | some (.struct fs) => !P.stoodInHeld t && cmpFs P f fs.toList
    | some (.array _ e) => (P.info? e).isSome && cmpTy P f e
    | _ => false
def cmpFs (P : Program) : Nat → List Field → Bool
  | 0, _ => false
  | _ + 1, [] => true
  | f + 1, x :: xs => x.name != "_" && cmpTy P f x.type && cmpFs P f xs
end

theorem eqCells_out : ∀ {ds : List TypeDesc} {l m : List Value} {K : Bool → Prop}, eqCells ds l m K → ∃ r, eqC ds l m = some r ∧ K r
  | [], l, m, K, h => by
    unfold eqCells at h
    cases l <;> cases m <;> first | exact h.elim | exact ⟨true, rfl, h⟩
  | d :: ds, l, m, K, h => by
    unfold eqCells at h
    cases l with
    | nil => exact h.elim
    | cons x l =>
    cases m with
    | nil => exact h.elim
    | cons y m =>
    cases d <;> simp only at h <;> try exact h.elim
    · cases x <;> simp only at h <;> try exact h.elim
      cases y <;> simp only at h <;> try exact h.elim
      obtain ⟨r, h1, h2⟩ := eqCells_out h
      exact ⟨_, by simp [eqC, h1], h2⟩
    · cases x <;> simp only at h <;> try exact h.elim
      cases y <;> simp only at h <;> try exact h.elim
      unfold chk at h
      rename_i k a k' b
      by_cases e : k = k'
      · rw [decide_eq_true e] at h
        obtain ⟨r, h1, h2⟩ := eqCells_out h
        exact ⟨_, by simp [eqC, h1, e], h2⟩
      · rw [decide_eq_false e] at h; exact h.elim
    · cases x <;> simp only at h <;> try exact h.elim
      cases y <;> simp only at h <;> try exact h.elim
      obtain ⟨r, h1, h2⟩ := eqCells_out h
      exact ⟨_, by simp [eqC, h1], h2⟩

theorem eqC_len : ∀ {ds : List TypeDesc} {l m : List Value} {r : Bool}, eqC ds l m = some r → l.length = ds.length ∧ m.length = ds.length
  | [], l, m, r, h => by cases l <;> cases m <;> first | exact ⟨rfl, rfl⟩ | cases h
  | d :: ds, l, m, r, h => by
    cases d <;> cases l <;> cases m <;> try (simp [eqC] at h; done)
    all_goals
      rename_i x l y m
      cases x <;> cases y <;> try (simp [eqC] at h; done)
    all_goals simp only [eqC] at h
    · obtain ⟨r', h1, _⟩ := Option.map_eq_some_iff.1 h
      have := eqC_len h1
      simp [this.1, this.2]
    · split at h
      · obtain ⟨r', h1, _⟩ := Option.map_eq_some_iff.1 h
        have := eqC_len h1
        simp [this.1, this.2]
      · cases h
    · obtain ⟨r', h1, _⟩ := Option.map_eq_some_iff.1 h
      have := eqC_len h1
      simp [this.1, this.2]

theorem eqC_flat : ∀ {ds : List TypeDesc} {l m : List Value} {r : Bool}, eqC ds l m = some r → l.all flat = true ∧ m.all flat = true
  | [], l, m, r, h => by cases l <;> cases m <;> first | exact ⟨rfl, rfl⟩ | cases h
  | d :: ds, l, m, r, h => by
    cases d <;> cases l <;> cases m <;> try (simp [eqC] at h; done)
    all_goals
      rename_i x l y m
      cases x <;> cases y <;> try (simp [eqC] at h; done)
    all_goals simp only [eqC] at h
    · obtain ⟨r', h1, _⟩ := Option.map_eq_some_iff.1 h
      have := eqC_flat h1
      exact ⟨by rw [List.all_cons, this.1]; rfl, by rw [List.all_cons, this.2]; rfl⟩
    · split at h
      · obtain ⟨r', h1, _⟩ := Option.map_eq_some_iff.1 h
        have := eqC_flat h1
        exact ⟨by rw [List.all_cons, this.1]; rfl, by rw [List.all_cons, this.2]; rfl⟩
      · cases h
    · obtain ⟨r', h1, _⟩ := Option.map_eq_some_iff.1 h
      have := eqC_flat h1
      exact ⟨by rw [List.all_cons, this.1]; rfl, by rw [List.all_cons, this.2]; rfl⟩

theorem eqC_app : ∀ {ds ds' : List TypeDesc} {l m : List Value} {r : Bool}, eqC (ds ++ ds') l m = some r →
    ∃ r1 r2, eqC ds (l.take ds.length) (m.take ds.length) = some r1 ∧ eqC ds' (l.drop ds.length) (m.drop ds.length) = some r2 ∧ r = (r1 && r2)
  | [], ds', l, m, r, h => ⟨true, r, by simp [eqC], by simpa using h, by simp⟩
  | d :: ds, ds', l, m, r, h => by
    rw [List.cons_append] at h
    cases d <;> cases l <;> cases m <;> try (simp [eqC] at h; done)
    all_goals
      rename_i x l y m
      cases x <;> cases y <;> try (simp [eqC] at h; done)
    all_goals simp only [eqC] at h
    · rename_i a b
      obtain ⟨r', h1, rfl⟩ := Option.map_eq_some_iff.1 h
      obtain ⟨r1, r2, h2, h3, rfl⟩ := eqC_app h1
      exact ⟨(decide (a = b) && r1), r2, by simp only [List.length_cons, List.take_succ_cons, eqC, h2, Option.map_some], by simpa using h3, by simp [Bool.and_assoc]⟩
    · rename_i k a k' b
      split at h
      · rename_i hk
        obtain ⟨r', h1, rfl⟩ := Option.map_eq_some_iff.1 h
        obtain ⟨r1, r2, h2, h3, rfl⟩ := eqC_app h1
        exact ⟨(decide (a = b) && r1), r2, by simp only [List.length_cons, List.take_succ_cons, eqC, if_pos hk, h2, Option.map_some], by simpa using h3, by simp [Bool.and_assoc]⟩
      · cases h
    · rename_i a b
      obtain ⟨r', h1, rfl⟩ := Option.map_eq_some_iff.1 h
      obtain ⟨r1, r2, h2, h3, rfl⟩ := eqC_app h1
      exact ⟨(decide (a = b) && r1), r2, by simp only [List.length_cons, List.take_succ_cons, eqC, h2, Option.map_some], by simpa using h3, by simp [Bool.and_assoc]⟩

def asV (P : Program) (t : Nat) (l : List Value) : Value :=
  match P.underlying t with
  | some (.struct _) => .agg ⟨l⟩
  | some (.array _ _) => .agg ⟨l⟩
  | _ => l.getD 0 undef

section
variable {P : Program}

theorem take_drop1 (l : List Value) (o : Nat) (h : o < l.length) : ((l.drop o).take 1).getD 0 undef = l.getD o undef := by
  simp [List.getD_eq_getElem?_getD, h]

theorem part_asV {f t : Nat} {ds : List TypeDesc} (h : flatTys P f t = some ds) (hc : ds.length = P.cellsOf t) {l : List Value} {off : Nat} (hl : off + ds.length ≤ l.length) (w : World) :
    (part t ⟨l⟩ off).run P w = .ok (asV P t ((l.drop off).take ds.length)) w := by
  cases f with
  | zero => simp [flatTys] at h
  | succ f =>
  unfold flatTys at h
  cases hu : P.underlying t with
  | none => rw [hu] at h; cases h
  | some d =>
    rw [hu] at h
    obtain ⟨i, hi⟩ := info_of_underlying hu
    have hs : P.cellsOf t = i.size := by simp [Program.cellsOf, hi]
    have ag : isAgg d = true → (part t ⟨l⟩ off).run P w = .ok (.agg ⟨(l.drop off).take ds.length⟩) w := fun ha => by
      rw [part_agg hu hi ha, hc, hs]
      congr 2
      apply Array.toList_inj.1
      simp [List.extract_eq_take_drop]
    cases d <;> simp only at h
    all_goals first | (cases h; done) | skip
    all_goals simp only [asV, hu]
    · obtain rfl := Option.some.inj h
      rw [part_one hu rfl (by simp at hl; omega), List.length_singleton, take_drop1 _ _ (by simp at hl; omega)]
    · obtain rfl := Option.some.inj h
      rw [part_one hu rfl (by simp at hl; omega), List.length_singleton, take_drop1 _ _ (by simp at hl; omega)]
    · obtain rfl := Option.some.inj h
      rw [part_one hu rfl (by simp at hl; omega), List.length_singleton, take_drop1 _ _ (by simp at hl; omega)]
    · exact ag rfl
    · exact ag rfl

theorem eqItems_flat {f e : Nat} {ds : List TypeDesc} (hf : flatTys P f e = some ds) (hc : ds.length = P.cellsOf e) {dd : Nat}
    (ih : ∀ l m r w, eqC ds l m = some r → (Op.equalIn dd e (asV P e l) (asV P e m)).run P w = .ok r w) (xs ys : List Value) :
    ∀ (n o : Nat) (r : Bool) (w : World), (o + n) * ds.length ≤ xs.length → (o + n) * ds.length ≤ ys.length → eqC (List.replicate n ds).flatten (xs.drop (o * ds.length)) (ys.drop (o * ds.length)) = some r → (Op.eqItems dd e (P.cellsOf e) ⟨xs⟩ ⟨ys⟩ ((List.range' o n))).run P w = .ok r w
  | 0, o, r, w, _, _, h => by
    have : r = true := by
      generalize xs.drop (o * ds.length) = a at h
      generalize ys.drop (o * ds.length) = b at h
      cases a <;> cases b <;> simp [eqC] at h
      exact h
    subst this
    simp [Op.eqItems]
  | n + 1, o, r, w, gx, gy, h => by
    have e1 : (o + (n + 1)) * ds.length = o * ds.length + ds.length + n * ds.length := by rw [Nat.add_mul, Nat.add_mul, Nat.one_mul]; omega
    have e2 : (o + 1 + n) * ds.length = o * ds.length + ds.length + n * ds.length := by rw [Nat.add_mul, Nat.add_mul, Nat.one_mul]
    rw [List.replicate_succ, List.flatten_cons] at h
    have hlen := eqC_len h
    obtain ⟨r1, r2, h1, h2, rfl⟩ := eqC_app h
    simp only [List.length_append, List.length_drop] at hlen
    rw [List.drop_drop, List.drop_drop, show o * ds.length + ds.length = (o + 1) * ds.length by rw [Nat.add_mul, Nat.one_mul]] at h2
    have hx := part_asV hf hc (l := xs) (off := o * P.cellsOf e) (by rw [← hc]; omega) w
    have hy := part_asV hf hc (l := ys) (off := o * P.cellsOf e) (by rw [← hc]; omega) w
    rw [List.range'_succ]
    simp only [Op.eqItems, Sem.run_bind, hx, hy, Result.andThen_ok]
    rw [← hc, ih _ _ _ w h1]
    simp only [Result.andThen_ok]
    cases r1
    · simp
    · have := eqItems_flat hf hc ih xs ys n (o + 1) r2 w (by omega) (by omega) h2
      rw [← hc] at this
      simpa using this

theorem eqC_bool {l m : List Value} {r : Bool} (h : eqC [.bool] l m = some r) : ∃ a b, l = [.bool a] ∧ m = [.bool b] ∧ r = decide (a = b) := by
  cases l <;> cases m <;> try (simp [eqC] at h; done)
  rename_i x l y m
  cases x <;> cases y <;> try (simp [eqC] at h; done)
  cases l <;> cases m <;> simp [eqC] at h
  exact ⟨_, _, rfl, rfl, h.symm⟩
theorem eqC_string {l m : List Value} {r : Bool} (h : eqC [.string] l m = some r) : ∃ a b, l = [.string a] ∧ m = [.string b] ∧ r = decide (a = b) := by
  cases l <;> cases m <;> try (simp [eqC] at h; done)
  rename_i x l y m
  cases x <;> cases y <;> try (simp [eqC] at h; done)
  cases l <;> cases m <;> simp [eqC] at h
  exact ⟨_, _, rfl, rfl, h.symm⟩
theorem eqC_int {k : IntKind} {l m : List Value} {r : Bool} (h : eqC [.int k] l m = some r) : ∃ k a b, l = [.int k a] ∧ m = [.int k b] ∧ r = decide (a = b) := by
  cases l <;> cases m <;> try (simp [eqC] at h; done)
  rename_i x l y m
  cases x <;> cases y <;> try (simp [eqC] at h; done)
  cases l <;> cases m <;> simp [eqC] at h
  obtain ⟨rfl, h⟩ := h
  exact ⟨_, _, _, rfl, rfl, h.symm⟩

theorem equalIn_flat : ∀ (f : Nat),
    (∀ t ds, flatTys P f t = some ds → cmpTy P f t = true → ∀ d l m r w, eqC ds l m = some r → (Op.equalIn (d + f) t (asV P t l) (asV P t m)).run P w = .ok r w) ∧
    (∀ (fs : List Field) off ds, structTys P f fs off = some ds → cmpFs P f fs = true → ∀ d (xs ys : List Value) r w, off + ds.length ≤ xs.length → off + ds.length ≤ ys.length → eqC ds (xs.drop off) (ys.drop off) = some r →
      (Op.eqFields (d + f) ⟨xs⟩ ⟨ys⟩ fs).run P w = .ok r w) := by
  intro f
  induction f with
  | zero => exact ⟨fun t ds h => by simp [flatTys] at h, fun fs off ds h => by simp [structTys] at h⟩
  | succ f ih =>
    obtain ⟨ih1, ih2⟩ := ih
    refine ⟨fun t ds h hc d l m r w he => ?_, fun fs off ds h hc d xs ys r w gx gy he => ?_⟩
    · unfold flatTys at h
      unfold cmpTy at hc
      cases hu : P.underlying t with
      | none => rw [hu] at h; cases h
      | some td =>
        rw [hu] at h hc
        cases td <;> simp only at h
        all_goals first | (cases h; done) | skip
        all_goals simp only [asV, hu]
        · obtain rfl := Option.some.inj h
          obtain ⟨a, b, rfl, rfl, rfl⟩ := eqC_bool he
          show (Op.equalIn (d + f + 1) t (.bool a) (.bool b)).run P w = _
          rw [run_equalIn_bool' w _ t a b hu]
          congr 1
        · obtain rfl := Option.some.inj h
          obtain ⟨k, a, b, rfl, rfl, rfl⟩ := eqC_int he
          show (Op.equalIn (d + f + 1) t (.int k a) (.int k b)).run P w = _
          rw [run_equalIn_int w _ t k _ a b hu]
          congr 1
        · obtain rfl := Option.some.inj h
          obtain ⟨a, b, rfl, rfl, rfl⟩ := eqC_string he
          show (Op.equalIn (d + f + 1) t (.string a) (.string b)).run P w = _
          unfold Op.equalIn
          simp only [Sem.run_bind, run_und hu, Result.andThen_ok, Sem.run_pure]
          congr 1
          rw [beq_toListBytes]
          by_cases e : a = b
          · subst e; simp
          · simp only [e, decide_false]
            rw [beq_eq_false_iff_ne]
            intro h
            apply e
            rw [ByteArray.toList_eq, ByteArray.toList_eq] at h
            cases a; cases b
            simp only [ByteArray.mk.injEq]
            exact Array.toList_inj.1 h
        · rename_i n e
          cases ee : flatTys P f e with
          | none => rw [ee] at h; cases h
          | some de =>
            rw [ee] at h
            cases eb : Nat.beq de.length (P.cellsOf e) && Nat.beq (n * de.length) (P.cellsOf t) <;> simp only [eb, cond_true, cond_false] at h
            · cases h
            · obtain rfl := Option.some.inj h
              simp only [Bool.and_eq_true] at eb hc
              have hce := Nat.eq_of_beq_eq_true eb.1
              cases hi : P.info? e with
              | none => simp [hi] at hc
              | some i =>
                show (Op.equalIn (d + f + 1) t (.agg ⟨l⟩) (.agg ⟨m⟩)).run P w = _
                rw [run_equalIn_array w (d + f) _ _ hu hi, List.range_eq_range']
                exact eqItems_flat ee hce (fun l m r w h => ih1 e de ee hc.2 d l m r w h) l m n 0 r w (by have := (eqC_len he).1; simp at this; simp; omega) (by have := (eqC_len he).2; simp at this; simp; omega) (by simpa using he)
        · rename_i fs
          simp only [Bool.and_eq_true, Bool.not_eq_true'] at hc
          cases es : structTys P f fs.toList 0 with
          | none => rw [es] at h; cases h
          | some de =>
            rw [es] at h
            cases eb : Nat.beq de.length (P.cellsOf t) <;> simp only [eb, cond_true, cond_false] at h
            · cases h
            · obtain rfl := Option.some.inj h
              have hfs : P.fieldsOf t = fs := by simp [Program.fieldsOf, hu]
              show (Op.equalIn (d + f + 1) t (.agg ⟨l⟩) (.agg ⟨m⟩)).run P w = _
              rw [run_equalIn_struct w (d + f) t _ _ (by rw [hfs]; exact hu) hc.1, hfs]
              exact ih2 fs.toList 0 de es hc.2 d l m r w (by have := (eqC_len he).1; omega) (by have := (eqC_len he).2; omega) (by simpa using he)
    · unfold structTys at h
      unfold cmpFs at hc
      cases fs with
      | nil =>
        obtain rfl := Option.some.inj h
        have : r = true := by
          generalize xs.drop off = a at he
          generalize ys.drop off = b at he
          cases a <;> cases b <;> simp [eqC] at he
          exact he
        subst this
        simp [Op.eqFields]
      | cons x fs =>
        simp only at h
        simp only [Bool.and_eq_true, bne_iff_ne] at hc
        cases ex : flatTys P f x.type with
        | none => rw [ex] at h; cases h
        | some dx =>
          rw [ex] at h
          simp only at h
          cases eb : Nat.beq x.offset off && Nat.beq dx.length (P.cellsOf x.type) <;> simp only [eb, cond_true, cond_false] at h
          · cases h
          · simp only [Bool.and_eq_true] at eb
            have h1 := Nat.eq_of_beq_eq_true eb.1
            have h2 := Nat.eq_of_beq_eq_true eb.2
            subst h1
            cases es : structTys P f fs (x.offset + dx.length) with
            | none => rw [es] at h; cases h
            | some dm =>
              rw [es] at h
              obtain rfl := Option.some.inj h
              have hlen := eqC_len he
              simp only [List.length_append] at gx gy
              obtain ⟨r1, r2, g1, g2, rfl⟩ := eqC_app he
              rw [List.drop_drop, List.drop_drop] at g2
              have ha := part_asV ex h2 (l := xs) (off := x.offset) (by omega) w
              have hb := part_asV ex h2 (l := ys) (off := x.offset) (by omega) w
              have hi := ih1 x.type dx ex hc.1.2 (d + 1) _ _ r1 w g1
              rw [show d + 1 + f = d + (f + 1) by omega] at hi
              simp only [Op.eqFields, hc.1.1, ne_eq, not_false_eq_true, if_true, Sem.run_bind, ha, hb, Result.andThen_ok, hi]
              cases r1
              · simp
              · have := ih2 fs _ dm es hc.2 (d + 1) xs ys r2 w (by omega) (by omega) g2
                rw [show d + 1 + f = d + (f + 1) by omega] at this
                simpa using this

theorem run_checkKey_plain1 {em : Bool} {n t : Nat} {d : TypeDesc} {v : Value} {w : World} (hu : P.underlying t = some d) (hd : d = .bool ∨ (∃ k, d = .int k) ∨ d = .string) : (Instr.checkKey em (n + 1) t v).run P w = .ok () w := by
  rw [Instr.checkKey]
  simp only [Sem.run_bind, run_und hu, Result.andThen_ok]
  rcases hd with rfl | ⟨k, rfl⟩ | rfl <;> cases v <;> rfl

/-- A key of ints, strings and bools is one. -/
theorem checkKey_flat (em : Bool) : ∀ (f : Nat),
    (∀ t ds, flatTys P f t = some ds → cmpTy P f t = true → ∀ d (l : List Value) w, l.length = ds.length → (Instr.checkKey em (d + f) t (asV P t l)).run P w = .ok () w) ∧
    (∀ (fs : List Field) off ds, structTys P f fs off = some ds → cmpFs P f fs = true → ∀ x ∈ fs, x.name ≠ "_" ∧ ∃ g dx, g < f ∧ flatTys P g x.type = some dx ∧ cmpTy P g x.type = true ∧ dx.length = P.cellsOf x.type ∧ off ≤ x.offset ∧ x.offset + dx.length ≤ off + ds.length) := by
  intro f
  induction f using Nat.strongRecOn with
  | _ f ih =>
  cases f with
  | zero => exact ⟨fun t ds h => by simp [flatTys] at h, fun fs off ds h => by simp [structTys] at h⟩
  | succ f =>
    refine ⟨fun t ds h hc d l w hl => ?_, fun fs off ds h hc => ?_⟩
    · unfold flatTys at h
      unfold cmpTy at hc
      cases hu : P.underlying t with
      | none => rw [hu] at h; cases h
      | some td =>
        rw [hu] at h hc
        cases td <;> simp only at h
        all_goals first | (cases h; done) | skip
        · exact run_checkKey_plain1 (n := d + f) hu (.inl rfl)
        · exact run_checkKey_plain1 (n := d + f) hu (.inr (.inl ⟨_, rfl⟩))
        · exact run_checkKey_plain1 (n := d + f) hu (.inr (.inr rfl))
        · rename_i n e
          cases ee : flatTys P f e with
          | none => rw [ee] at h; cases h
          | some de =>
            rw [ee] at h
            cases eb : Nat.beq de.length (P.cellsOf e) && Nat.beq (n * de.length) (P.cellsOf t) <;> simp only [eb, cond_true, cond_false] at h
            · cases h
            · obtain rfl := Option.some.inj h
              simp only [Bool.and_eq_true] at eb hc
              have hce := Nat.eq_of_beq_eq_true eb.1
              cases hi : P.info? e with
              | none => simp [hi] at hc
              | some i =>
                have hs : P.cellsOf e = i.size := by simp [Program.cellsOf, hi]
                have hln : l.length = n * de.length := by rw [hl]; simp
                simp only [asV, hu]
                rw [show d + (f + 1) = (d + f) + 1 from rfl, Instr.checkKey]
                simp only [Sem.run_bind, run_und hu, Result.andThen_ok]
                simp only [Std.Legacy.Range.forIn_eq_forIn_range', Std.Legacy.Range.size, Nat.sub_zero, Nat.add_one_sub_one, Nat.div_one]
                have hall : ∀ j ∈ List.range' 0 n, j < n := fun j hj => by simpa using hj
                generalize List.range' 0 n = is at hall
                induction is with
                | nil => simp
                | cons j is ihi =>
                  have hj : j < n := hall j (by simp)
                  have hle : j * P.cellsOf e + de.length ≤ l.length := by
                    rw [hln, ← hce]
                    calc j * de.length + de.length = (j + 1) * de.length := by rw [Nat.add_mul, Nat.one_mul]
                      _ ≤ n * de.length := Nat.mul_le_mul_right _ hj
                  have p1 := part_asV ee hce (l := l) (off := j * P.cellsOf e) hle w
                  have p2 := (ih f (Nat.lt_succ_self _)).1 e de ee hc.2 d ((l.drop (j * P.cellsOf e)).take de.length) w (by rw [List.length_take, List.length_drop]; omega)
                  rw [hs] at p1 p2
                  simp only [List.forIn_cons, Sem.run_bind, run_size hi, Result.andThen_ok, p1, p2, Sem.run_pure]
                  exact ihi (fun y hy => hall y (by simp [hy]))
        · rename_i fs
          simp only [Bool.and_eq_true, Bool.not_eq_true'] at hc
          cases es : structTys P f fs.toList 0 with
          | none => rw [es] at h; cases h
          | some de =>
            rw [es] at h
            cases eb : Nat.beq de.length (P.cellsOf t) <;> simp only [eb, cond_true, cond_false] at h
            · cases h
            · obtain rfl := Option.some.inj h
              have hfs := (ih f (Nat.lt_succ_self _)).2 fs.toList 0 de es hc.2
              simp only [asV, hu]
              rw [show d + (f + 1) = (d + f) + 1 from rfl, Instr.checkKey]
              simp only [Sem.run_bind, run_und hu, Result.andThen_ok]
              rw [← Array.forIn_toList]
              clear es
              generalize fs.toList = L at hfs
              induction L with
              | nil => simp
              | cons x L ihl =>
                obtain ⟨hn, g, dx, hg, hx1, hx2, hx3, hx4, hx5⟩ := hfs x (by simp)
                have p1 := part_asV hx1 hx3 (l := l) (off := x.offset) (by omega) w
                have p2 := (ih g (by omega)).1 x.type dx hx1 hx2 (d + (f - g)) ((l.drop x.offset).take dx.length) w (by rw [List.length_take, List.length_drop]; omega)
                rw [show d + (f - g) + g = d + f by omega] at p2
                simp only [List.forIn_cons, Sem.run_bind, hn, ne_eq, not_false_eq_true, if_true, Result.andThen_ok, p1, p2, Sem.run_pure]
                exact ihl (fun y hy => hfs y (by simp [hy]))
    · unfold structTys at h
      unfold cmpFs at hc
      cases fs with
      | nil => intro x hx; cases hx
      | cons x fs =>
        simp only at h
        simp only [Bool.and_eq_true, bne_iff_ne] at hc
        cases ex : flatTys P f x.type with
        | none => rw [ex] at h; cases h
        | some dx =>
          rw [ex] at h
          simp only at h
          cases eb : Nat.beq x.offset off && Nat.beq dx.length (P.cellsOf x.type) <;> simp only [eb, cond_true, cond_false] at h
          · cases h
          · simp only [Bool.and_eq_true] at eb
            have h1 := Nat.eq_of_beq_eq_true eb.1
            have h2 := Nat.eq_of_beq_eq_true eb.2
            cases es : structTys P f fs (off + dx.length) with
            | none => rw [es] at h; cases h
            | some dm =>
              rw [es] at h
              obtain rfl := Option.some.inj h
              have hr := (ih f (Nat.lt_succ_self _)).2 fs _ dm es hc.2
              intro y hy
              rcases List.mem_cons.1 hy with rfl | hy
              · exact ⟨hc.1.1, f, dx, Nat.lt_succ_self _, ex, hc.1.2, h2, by omega, by rw [List.length_append]; omega⟩
              · obtain ⟨q1, g, dy, q2, q3, q4, q5, q6, q7⟩ := hr y hy
                exact ⟨q1, g, dy, by omega, q3, q4, q5, by omega, by rw [List.length_append]; omega⟩

theorem cmp_ok {f t : Nat} {ds : List TypeDesc} (h : flatTys P f t = some ds) (hc : cmpTy P f t = true) (hf : f ≤ 10000) (hg : P.eqGuardType P.depth t = false) (ha : (match P.underlying t with | some d => isAgg d | none => false) = true) : CmpOk P t ds := by
  have hd : ∃ d, P.underlying t = some d ∧ isAgg d = true := by
    cases hu : P.underlying t with
    | none => rw [hu] at ha; cases ha
    | some d => rw [hu] at ha; exact ⟨d, rfl, ha⟩
  have e : ∀ l, asV P t l = .agg ⟨l⟩ := fun l => by
    unfold asV
    cases hu : P.underlying t with
    | none => rw [hu] at ha; cases ha
    | some d => rw [hu] at ha; cases d <;> first | rfl | cases ha
  refine ⟨hg, fun l m r w he => ?_, hd, fun em l w hl => ?_⟩
  rotate_left
  · have := (checkKey_flat (P := P) em f).1 t ds h hc (10000 - f) l w hl
    rw [show 10000 - f + f = 10000 by omega, e] at this
    exact this
  have := (equalIn_flat (P := P) f).1 t ds h hc (10000 - f) l m r w he
  rw [show 10000 - f + f = 10000 by omega] at this
  rw [e, e] at this
  exact this
end

end Go.Eng
