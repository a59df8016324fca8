/- A part of the interpreter of Go code, and of the proof that it says what Go does; no condition. -/
import Derived.Test.YtnnfbgonjonflaaEng29
set_option linter.unusedSimpArgs false
set_option linter.unusedVariables false
namespace Go.Eng
variable {Fb : Nat}
variable {P : Program} {T : TT} {β : Be} {H : Hp} {nb : Nat} {W : World} {a : Act} {fr : Fr}

theorem one_out {v v' : Value} {K : List Value → Prop} (hv : RV β H nb v v') (h : K [v]) (hc : v'.cells = ⟨[v']⟩) : ∃ cs cs', K cs ∧ RVs β H nb cs cs' ∧ v'.cells = ⟨cs'⟩ :=
  ⟨[v], [v'], h, ⟨rfl, fun i hi => by obtain rfl : i = 0 := (by simpa using hi); exact hv⟩, hc⟩

theorem cells_out {v v' : Value} {K : List Value → Prop} (hv : RV β H nb v v') (h : cellsK v K) : ∃ cs cs', K cs ∧ RVs β H nb cs cs' ∧ v'.cells = ⟨cs'⟩ := by
  have hv0 := hv
  cases hv with
  | @agg l l' hl hr => exact ⟨l, l', h, ⟨hl, hr⟩, rfl⟩
  | tuple => exact h.elim
  | unk => exact h.elim
  | _ => exact one_out hv0 h rfl

theorem putCells_length : ∀ (cs l : List Value) (off : Nat), (putCells l off cs).length = l.length
  | [], _, _ => rfl
  | c :: cs, l, off => by simp [putCells, putCells_length cs]

theorem RVs.set {l l' : List Value} {v v' : Value} (h : RVs β H nb l l') (hv : RV β H nb v v') (i : Nat) : RVs β H nb (l.set i v) (l'.set i v') := by
  refine ⟨by simp [h.1], fun j hj => ?_⟩
  have hj' : j < l.length := by simpa using hj
  by_cases e : i = j
  · subst e
    have hj2 : i < l'.length := h.1 ▸ hj'
    simpa [List.getD_eq_getElem?_getD, hj', hj2] using hv
  · simpa [List.getD_eq_getElem?_getD, List.getElem?_set, e] using h.2 j hj'

theorem RVs.putCells : ∀ {cs cs' : List Value} {l l' : List Value} (off : Nat), RVs β H nb l l' → RVs β H nb cs cs' → RVs β H nb (putCells l off cs) (putCells l' off cs')
  | [], cs', l, l', off, h, hc => by
    have : cs' = [] := List.eq_nil_of_length_eq_zero hc.1.symm
    subst this; exact h
  | c :: cs, cs', l, l', off, h, hc => by
    cases cs' with
    | nil => have := hc.1; simp at this
    | cons c' cs' =>
      have hy : RV β H nb c c' := by simpa using hc.2 0 (by simp)
      have hl' : RVs β H nb cs cs' := ⟨by simpa using hc.1, fun i hi => by simpa using hc.2 (i + 1) (by simpa using hi)⟩
      exact RVs.putCells (off + 1) (h.set hy off) hl'

theorem fold_put : ∀ (cs l : List Value) (off k : Nat), (cs.zipIdx k).foldl (fun (A : Array Value) (x : Value × Nat) => A.setIfInBounds (off + x.2) x.1) ⟨l⟩ = ⟨putCells l (off + k) cs⟩
  | [], l, off, k => rfl
  | c :: cs, l, off, k => by
    have e : (⟨l⟩ : Array Value).setIfInBounds (off + k) c = ⟨l.set (off + k) c⟩ := by simp
    simp only [List.zipIdx_cons, List.foldl_cons, putCells, e]
    rw [fold_put cs (l.set (off + k) c) off (k + 1), Nat.add_assoc]

theorem fill_out {place : Nat → Option (Nat × Nat)} (hfr : ∀ k, RV β H nb (fr k) (a.tmps.getD k undef)) : ∀ (parts : List (Nat × Operand)) {l l' : List Value} {K : List Value → Prop}, RVs β H nb l l' → afill place fr l parts K →
    ∃ m m', K m ∧ RVs β H nb m m' ∧ Instr.fill place ⟨l'⟩ (parts.map fun x => (x.1, a.eval x.2)) = some ⟨m'⟩
  | [], l, l', K, hl, h => ⟨l, l', h, hl, rfl⟩
  | (i, x) :: rest, l, l', K, hl, h => by
    unfold afill at h
    cases e : place i with
    | none => rw [e] at h; exact h.elim
    | some p =>
      obtain ⟨off, size⟩ := p
      rw [e] at h
      obtain ⟨v, h1, h2⟩ := rd_out hfr h
      obtain ⟨cs, cs', h3, h4, h5⟩ := cells_out h2 h1
      obtain ⟨h6, h7⟩ := chk_out h3
      simp only [Bool.and_eq_true, Nat.beq_eq, Nat.ble_eq] at h6
      obtain ⟨m, m', g1, g2, g3⟩ := fill_out hfr rest (hl.putCells off h4) h7
      refine ⟨m, m', g1, g2, ?_⟩
      have hc1 : cs'.length = size := by rw [← h4.1]; exact h6.1
      have hc2 : ¬ (off + cs'.length > l'.length) := by rw [← h4.1, ← hl.1]; omega
      have hf := fold_put cs' l' off 0
      simp only [List.map_cons, Instr.fill, e, h5]
      rw [if_neg (by simp [hc1]; omega)]
      rw [show (Array.zipIdx (⟨cs'⟩ : Array Value)) = ⟨cs'.zipIdx 0⟩ from by simp]
      rw [List.foldl_toArray]
      simp only [hf]
      exact g3

theorem forceL_out : ∀ (l : List Value) {K : List Value → Prop}, forceL l K → K l
  | [], _, h => h
  | v :: l, K, h => forceL_out l (force_out h)

theorem places_some : ∀ (fs : List Field), (fs.all fun f => (T f.type).isSome) = true → TOk P T →
    ∃ places : List (Nat × Nat), fs.mapM (fun f => (P.info? f.type).map fun i => (f.offset, i.size)) = some places ∧
      ∀ i : Nat, places[i]? = (match (fs[i]? : Option Field) with | some fd => (match T fd.type with | some ti => some (fd.offset, ti.size) | none => none) | none => none)
  | [], _, _ => ⟨[], rfl, fun i => by simp⟩
  | f :: fs, h, hT => by
    simp only [List.all_cons, Bool.and_eq_true] at h
    obtain ⟨h1, h2⟩ := h
    obtain ⟨places, g1, g2⟩ := places_some fs h2 hT
    cases e : T f.type with
    | none => simp [e] at h1
    | some ti =>
      obtain ⟨_, i, hi, hs, _⟩ := hT _ _ e
      refine ⟨(f.offset, ti.size) :: places, ?_, fun j => ?_⟩
      · simp [List.mapM_cons, hi, hs, g1]
      · cases j with
        | zero => simp [e]
        | succ j => simpa using g2 j

theorem build_out {t : Nat} {parts : List (Nat × Operand)} {K : Value → Prop} (hT : TOk P T) (hfr : ∀ k, RV β H nb (fr k) (a.tmps.getD k undef)) (h : abuild T t fr parts K) :
    ∃ v v', K v ∧ RV β H nb v v' ∧ RunsAny P (Instr.build t ((parts.map fun x => (x.1, a.eval x.2))).toArray) v' := by
  obtain ⟨ti, hti, h⟩ := tyK_out h
  obtain ⟨hu, it, hit, hs, hby, ⟨z, hz, hzc⟩, hlen, hflat, _⟩ := hT _ _ hti
  have hz0 : RVs β H nb ti.zero ti.zero := ⟨rfl, fun i hi => flat0_refl (getD_all hflat hi)⟩
  cases ed : ti.desc <;> rw [ed] at h hu <;> simp only at h
  all_goals first | exact h.elim | skip
  · rename_i n e
    obtain ⟨te, hte, h⟩ := tyK_out h
    obtain ⟨_, ie, hie, hse, _⟩ := hT _ _ hte
    obtain ⟨m, m', g1, g2, g3⟩ := fill_out hfr parts hz0 h
    refine ⟨_, .agg ⟨m'⟩, forceL_out m g1, .agg g2.1 g2.2, fun w _ => run_build w t _ _ ?_⟩
    simp only [Program.built, hit, hu, hz, hie, hse, hzc]
    exact g3
  · rename_i fs
    obtain ⟨h1, h2⟩ := chk_out h
    obtain ⟨places, p1, p2⟩ := places_some fs.toList h1 hT
    obtain ⟨m, m', g1, g2, g3⟩ := fill_out hfr parts hz0 h2
    refine ⟨_, .agg ⟨m'⟩, forceL_out m g1, .agg g2.1 g2.2, fun w _ => run_build w t _ _ ?_⟩
    simp only [Program.built, hit, hu, hz, p1, hzc]
    have hp : (fun i : Nat => places.toArray[i]?) = fieldPlaces T fs := by
      funext i
      rw [List.getElem?_toArray, p2 i]
      simp only [fieldPlaces, Array.getElem?_toList]
      cases fs[i]? with
      | none => rfl
      | some fd => cases e2 : T fd.type <;> simp only [e2]
    rw [hp]
    exact g3

theorem execOp_v {o : Oper} {s : Sem Value} {v : Value} {w : World} (he : execOp a.eval o = (do pure (Next.value (← s)))) (hs : s.run P w = .ok v w) : (execOp a.eval o).run P w = .ok (.value v) w := by
  rw [he]; simp [hs]

/-- **AN OPERATION THAT READS AT MOST.** -/
theorem ro_out {o : Oper} {K : Value → Prop} {X : Prop} (hT : TOk P T) (R : Rel Fb β H nb W) (hfr : ∀ k, RV β H nb (fr k) (a.tmps.getD k undef)) (he : ro T fr H o.op K = some X) (h : X) :
    ∃ v v', K v ∧ RV β H nb v v' ∧ ∀ w, (Keeps W w ∨ freeOp o.op = true) → (execOp a.eval o).run P w = .ok (.value v') w := by
  cases eo : o.op <;> rw [eo] at he <;> simp only [ro] at he
  all_goals first | (cases he; done) | skip
  case move x =>
    obtain rfl := Option.some.inj he
    obtain ⟨v, h1, h2⟩ := rd_out hfr h
    exact ⟨v, _, h1, h2, fun w _ => by simp [execOp, eo]⟩
  case assign x =>
    obtain rfl := Option.some.inj he
    obtain ⟨v, h1, h2⟩ := rd_out hfr h
    exact ⟨v, _, h1, h2, fun w _ => by simp [execOp, eo]⟩
  case build t parts =>
    obtain rfl := Option.some.inj he
    obtain ⟨v, v', h1, h2, h3⟩ := build_out hT hfr h
    refine ⟨v, v', h1, h2, fun w k => execOp_v (s := Instr.build t (parts.map fun x => (x.1, a.eval x.2))) (by simp only [execOp, eo]) ?_⟩
    have := h3 w trivial
    rwa [show ((parts.toList.map fun x => (x.1, a.eval x.2)).toArray) = parts.map (fun x => (x.1, a.eval x.2)) from Array.ext' (by simp)] at this
  case load t x =>
    obtain rfl := Option.some.inj he
    obtain ⟨p, h1, h2⟩ := rd_out hfr h
    obtain ⟨v, v', h3, h4, h5⟩ := load_out hT R h2 h1
    exact ⟨v, v', h3, h4, fun w k => execOp_v (by simp only [execOp, eo]) (h5 w (k.resolve_right Bool.false_ne_true))⟩
  case lookup t x i ok =>
    obtain rfl := Option.some.inj he
    obtain ⟨p, h1, h2⟩ := rd_out hfr h
    obtain ⟨q, h1', h2'⟩ := rd_out hfr h1
    obtain ⟨v, v', h3, h4, h5⟩ := lookup_out hT R h2 h2' h1'
    exact ⟨v, v', h3, h4, fun w k => execOp_v (by simp only [execOp, eo]) (h5 w (k.resolve_right Bool.false_ne_true))⟩
  case entry it =>
    obtain rfl := Option.some.inj he
    obtain ⟨p, h1, h2⟩ := rd_out hfr h
    obtain ⟨v, v', h3, h4, h5⟩ := entry_out (P := P) R h2 h1
    exact ⟨v, v', h3, h4, fun w k => execOp_v (by simp only [execOp, eo]) (h5 w (k.resolve_right Bool.false_ne_true))⟩
  case nilCheck x =>
    obtain rfl := Option.some.inj he
    obtain ⟨p, h1, h2⟩ := rd_out hfr h
    split at h1
    · rename_i b
      refine ⟨_, a.eval x, h1, h2, fun w _ => ?_⟩
      simp only [execOp, eo]
      generalize a.eval x = q at h2 ⊢
      cases h2 with
      | @ptr _ a' ha => simp
    · exact h1.elim
  case binOp op t x y yt =>
    obtain rfl := Option.some.inj he
    obtain ⟨u, h1, h2⟩ := rd_out hfr h
    obtain ⟨v, h3, h4⟩ := rd_out hfr h1
    obtain ⟨r, h5, h6, h7⟩ := bin_out (x := x) (y := y) hT h2 h4 h3
    exact ⟨r, r, h5, flat0_refl h6, fun w k => execOp_v (by simp only [execOp, eo]) (h7 w trivial)⟩
  case unOp op t x =>
    obtain rfl := Option.some.inj he
    obtain ⟨u, h1, h2⟩ := rd_out hfr h
    obtain ⟨r, h5, h6, h7⟩ := un_out (P := P) h2 h1
    exact ⟨r, r, h5, flat0_refl h6, fun w k => execOp_v (by simp only [execOp, eo]) (h7 w trivial)⟩
  case convert s d x =>
    split at he
    · cases he
    obtain rfl := Option.some.inj he
    obtain ⟨u, h1, h2⟩ := rd_out hfr h
    obtain ⟨r, h5, h6, h7⟩ := conv_out hT h2 h1
    exact ⟨r, r, h5, flat0_refl h6, fun w k => execOp_v (by simp only [execOp, eo]) (h7 w trivial)⟩
  case makeFunc fn first cap =>
    obtain rfl := Option.some.inj he
    obtain ⟨f, h1, h2⟩ := rdAll_out hfr _ h
    obtain ⟨c, h3, h4⟩ := rdAll_out hfr _ h1
    refine ⟨_, .func fn ⟨first.toList.map a.eval⟩ ⟨cap.toList.map a.eval⟩, h3, .func fn h2.1 h2.2 h4.1 h4.2, fun w k => execOp_v (s := Instr.makeFunc fn (first.map a.eval) (cap.map a.eval)) (by simp only [execOp, eo]) ?_⟩
    have e1 : ∀ (A : Array Operand), A.map a.eval = ⟨A.toList.map a.eval⟩ := fun A => Array.ext' (by simp)
    rw [e1, e1]
    rfl
  case slice t x lo hi mx =>
    obtain rfl := Option.some.inj he
    obtain ⟨p, h1, h2⟩ := rd_out hfr h
    obtain ⟨v, v', h3, h4, h5⟩ := slice_out hT R hfr h2 h1
    exact ⟨v, v', h3, h4, fun w k => execOp_v (by simp only [execOp, eo]) (h5 w trivial)⟩
  case fieldAddr s x f =>
    obtain rfl := Option.some.inj he
    obtain ⟨p, h1, h2⟩ := rd_out hfr h
    obtain ⟨v, v', h3, h4, h5⟩ := fieldAddr_out hT h2 h1
    exact ⟨v, v', h3, h4, fun w k => execOp_v (by simp only [execOp, eo]) (h5 w trivial)⟩
  case field s x f =>
    obtain rfl := Option.some.inj he
    obtain ⟨p, h1, h2⟩ := rd_out hfr h
    obtain ⟨v, v', h3, h4, h5⟩ := fieldVal_out hT h2 h1
    exact ⟨v, v', h3, h4, fun w k => execOp_v (by simp only [execOp, eo]) (h5 w trivial)⟩
  case indexAddr t x i =>
    obtain rfl := Option.some.inj he
    obtain ⟨p, h1, h2⟩ := rd_out hfr h
    obtain ⟨q, h1', h2'⟩ := rd_out hfr h1
    obtain ⟨v, v', h3, h4, h5⟩ := indexAddr_out hT h2 h2' h1'
    exact ⟨v, v', h3, h4, fun w k => execOp_v (by simp only [execOp, eo]) (h5 w trivial)⟩
  case index t x i =>
    obtain rfl := Option.some.inj he
    obtain ⟨p, h1, h2⟩ := rd_out hfr h
    obtain ⟨q, h1', h2'⟩ := rd_out hfr h1
    obtain ⟨v, v', h3, h4, h5⟩ := index_out hT h2 h2' h1'
    exact ⟨v, v', h3, h4, fun w k => execOp_v (by simp only [execOp, eo]) (h5 w trivial)⟩
  case extract x i =>
    obtain rfl := Option.some.inj he
    obtain ⟨p, h1, h2⟩ := rd_out hfr h
    obtain ⟨v, v', h3, h4, h5⟩ := extract_out (P := P) h2 h1
    exact ⟨v, v', h3, h4, fun w k => execOp_v (by simp only [execOp, eo]) (h5 w trivial)⟩
  case call c =>
    obtain ⟨cal, args, ats⟩ := c
    cases cal <;> simp only at he
    all_goals first | (cases he; done) | skip
    rename_i b
    have hargs : ∀ {l : List Value}, RVs β H nb l (args.toList.map a.eval) → True := fun _ => trivial
    have e1 : args.map a.eval = ⟨args.toList.map a.eval⟩ := Array.ext' (by simp)
    cases b <;> simp only [abuiltin] at he
    all_goals first | (cases he; done) | skip
    case len =>
      cases et : ats[0]? with
      | none => rw [et] at he; obtain rfl := Option.some.inj he; exact h.elim
      | some t =>
        rw [et] at he
        obtain rfl := Option.some.inj he
        obtain ⟨l, h1, h2⟩ := rdAll_out hfr _ h
        split at h1
        · rename_i x
          obtain ⟨hl, hx⟩ := h2
          cases em : args.toList.map a.eval with
          | nil => rw [em] at hl; simp at hl
          | cons x' tl =>
            have etl : tl = [] := by rw [em] at hl; simpa using hl.symm
            subst etl
            have hx0 := hx 0 (by simp)
            rw [em] at hx0
            obtain ⟨r, h5, h6, h7⟩ := len_out (ty := o.type) hT R et (x' := x') (by simpa using hx0) h1
            refine ⟨r, r, h5, flat0_refl h6, fun w k => execOp_v (s := Builtin.len_ ats o.type #[x']) ?_ (h7 w (k.resolve_right Bool.false_ne_true))⟩
            simp only [execOp, eo, resolve, invoke, builtin, e1, em]; rfl
        · exact h1.elim
    case max =>
      obtain rfl := Option.some.inj he
      obtain ⟨l, h1, h2⟩ := rdAll_out hfr _ h
      split at h1
      · rename_i x l
        cases em : args.toList.map a.eval with
        | nil => rw [em] at h2; have := h2.1; simp at this
        | cons x' tl =>
          rw [em] at h2
          have hx : RV β H nb x x' := by simpa using h2.2 0 (by simp)
          have hl : RVs β H nb l tl := ⟨by simpa using h2.1, fun i hi => by simpa using h2.2 (i + 1) (by simpa using hi)⟩
          obtain ⟨r, r', h5, h6, h7⟩ := foldMM_out (P := P) (mx := true) l tl hx hl h1
          refine ⟨r, r', h5, h6, fun w k => execOp_v (s := Builtin.max_ ats o.type ⟨x' :: tl⟩) ?_ (h7 w trivial)⟩
          simp only [execOp, eo, resolve, invoke, builtin, e1, em]; rfl
      · exact h1.elim
    case min =>
      obtain rfl := Option.some.inj he
      obtain ⟨l, h1, h2⟩ := rdAll_out hfr _ h
      split at h1
      · rename_i x l
        cases em : args.toList.map a.eval with
        | nil => rw [em] at h2; have := h2.1; simp at this
        | cons x' tl =>
          rw [em] at h2
          have hx : RV β H nb x x' := by simpa using h2.2 0 (by simp)
          have hl : RVs β H nb l tl := ⟨by simpa using h2.1, fun i hi => by simpa using h2.2 (i + 1) (by simpa using hi)⟩
          obtain ⟨r, r', h5, h6, h7⟩ := foldMM_out (P := P) (mx := false) l tl hx hl h1
          refine ⟨r, r', h5, h6, fun w k => execOp_v (s := Builtin.min_ ats o.type ⟨x' :: tl⟩) ?_ (h7 w trivial)⟩
          simp only [execOp, eo, resolve, invoke, builtin, e1, em]; rfl
      · exact h1.elim

end Go.Eng
