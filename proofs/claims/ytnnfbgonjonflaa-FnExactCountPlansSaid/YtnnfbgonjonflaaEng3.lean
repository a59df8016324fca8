/- A part of the interpreter of Go code, and of the proof that it says what Go does; no condition. -/
import Derived.Test.YtnnfbgonjonflaaEng2
import Derived.Test.YtnnfbgonjonflaaEng17
set_option linter.unusedSimpArgs false
set_option linter.unusedVariables false
namespace Go.Eng
variable {Fb : Nat}
variable {P : Program} {T : TT} {β : Be} {H : Hp} {nb : Nat} {W : World} {a : Act} {fr : Fr}

theorem int_inv {k : IntKind} {n : Int} {v' : Value} (h : RV β H nb (.int k n) v') : v' = .int k n := by cases h; rfl
theorem bool_inv {b : Bool} {v' : Value} (h : RV β H nb (.bool b) v') : v' = .bool b := by cases h; rfl
theorem string_inv {b : ByteArray} {v' : Value} (h : RV β H nb (.string b) v') : v' = .string b := by cases h; rfl

theorem equal_bool {w : World} {t : Nat} {a b : Bool} (hu : P.underlying t = some .bool) : (Op.equal t (.bool a) (.bool b)).run P w = .ok (a == b) w := by
  show (Op.equalIn (9999 + 1) t (.bool a) (.bool b)).run P w = _
  unfold Op.equalIn
  simp [run_und hu]

theorem equal_slice_nil {w : World} {t : Nat} {e : Nat} {a : Option Addr} {n c n' c' : Nat} (hu : P.underlying t = some (.slice e)) : (Op.equal t (.slice a n c) (.slice none n' c')).run P w = .ok a.isNone w := by
  show (Op.equalIn (9999 + 1) t (.slice a n c) (.slice none n' c')).run P w = _
  unfold Op.equalIn
  cases a <;> simp [run_und hu]

theorem bin_out {op : BinOp} {t : Nat} {x y : Operand} {u u' v v' : Value} {K : Value → Prop} (hT : TOk P T) (hu : RV β H nb u u') (hv : RV β H nb v v') (h : abin T op t u v K) :
    ∃ r, K r ∧ flat0 r = true ∧ RunsAny P (do eqGuard op t x y u' v'; binOp op t u' v') r := by
  unfold abin at h
  split at h
  · rename_i k m
    rw [int_inv hu]
    split at h
    · rename_i k' n
      rw [int_inv hv]
      split at h
      · obtain ⟨h1, h2⟩ := chk_out h
        have h1 : 0 ≤ n := by simpa using h1
        refine ⟨_, h2, rfl, fun w _ => ?_⟩
        have h3 : ¬ n < 0 := by omega
        simp [binOp, Op.shift, go_sem, h3]
      · obtain ⟨h1, h2⟩ := chk_out h
        have h1 : 0 ≤ n := by simpa using h1
        refine ⟨_, h2, rfl, fun w _ => ?_⟩
        have h3 : ¬ n < 0 := by omega
        simp [binOp, Op.shift, go_sem, h3]
      · rename_i hn1 hn2
        obtain ⟨h1, h2⟩ := chk_out h
        have h1 : k = k' := by simpa using h1
        subst h1
        cases op <;> simp only [aint] at h2
        case quo =>
          obtain ⟨h3, h4⟩ := chk_out h2
          have h3 : ¬ n = 0 := by simpa using h3
          exact ⟨_, h4, rfl, fun w _ => by simp [binOp, Op.intDiv, go_sem, h3]⟩
        case rem =>
          obtain ⟨h3, h4⟩ := chk_out h2
          have h3 : ¬ n = 0 := by simpa using h3
          exact ⟨_, h4, rfl, fun w _ => by simp [binOp, Op.intDiv, go_sem, h3]⟩
        case andNot => exact ⟨_, h2, rfl, fun w _ => by simp [binOp, go_sem]; rfl⟩
        case and => exact ⟨_, h2, rfl, fun w _ => by simp [binOp, go_sem]; rfl⟩
        case or => exact ⟨_, h2, rfl, fun w _ => by simp [binOp, go_sem]; rfl⟩
        case xor => exact ⟨_, h2, rfl, fun w _ => by simp [binOp, go_sem]; rfl⟩
        all_goals exact ⟨_, h2, rfl, fun w _ => by simp [binOp, Op.intArith, Op.intCmp, go_sem]⟩
    · exact h.elim
  · rename_i m
    rw [string_inv hu]
    split at h
    · rename_i n
      rw [string_inv hv]
      cases op <;> simp only [astr] at h
      all_goals first | exact h.elim | skip
      case add =>
        obtain ⟨h1, h2⟩ := h
        refine ⟨_, h2, rfl, fun w _ => ?_⟩
        have h3 : ¬ (((m.size + n.size : Nat) : Int) > IntKind.i64.max) := by rw [IntKind.max_i64]; omega
        simp only [binOp, Op.stringOp, eqGuard_add, Sem.run_bind, Sem.run_pure, Result.andThen_ok, if_neg h3]
      all_goals exact ⟨_, h, rfl, fun w _ => by simp [binOp, Op.stringOp, go_sem]⟩
    · exact h.elim
  · rename_i m
    rw [bool_inv hu]
    split at h
    · rename_i n
      rw [bool_inv hv]
      obtain ⟨ti, hti, h⟩ := tyK_out h
      have hu := (hT _ _ hti).1
      cases ed : ti.desc <;> rw [ed] at h hu <;> simp only at h
      all_goals first | exact h.elim | skip
      cases op <;> simp only at h
      all_goals first | exact h.elim | skip
      all_goals exact ⟨_, h, rfl, fun w _ => by simp [binOp, go_sem, equal_bool hu]⟩
    · exact h.elim
  · rename_i m n c
    split at h
    · rename_i n' c'
      have hv' : v' = .slice none n' c' := by cases hv; rfl
      rw [hv']
      obtain ⟨ti, hti, h⟩ := tyK_out h
      have hu2 := (hT _ _ hti).1
      cases ed : ti.desc <;> rw [ed] at h hu2 <;> simp only at h
      all_goals first | exact h.elim | skip
      cases m with
      | none =>
        have hu' : u' = .slice none n c := by cases hu; rfl
        rw [hu']
        cases op <;> simp only at h
        all_goals first | exact h.elim | skip
        all_goals exact ⟨_, h, rfl, fun w _ => by simp [binOp, go_sem, equal_slice_nil hu2]⟩
      | some m =>
        have hu' : ∃ m' n c, u' = .slice (some m') n c := by cases hu <;> exact ⟨_, _, _, rfl⟩
        obtain ⟨m', n, c, hu'⟩ := hu'
        rw [hu']
        cases op <;> simp only at h
        all_goals first | exact h.elim | skip
        all_goals exact ⟨_, h, rfl, fun w _ => by simp [binOp, go_sem, equal_slice_nil hu2]⟩
    · exact h.elim
  · rename_i l
    split at h
    case h_2 => exact h.elim
    rename_i m
    obtain ⟨l', rfl, hl⟩ := agg_inv hu
    obtain ⟨m', rfl, hm⟩ := agg_inv hv
    have h9 := tyK_out h
    clear h
    obtain ⟨ti, hti, h⟩ := h9
    cases hcm : ti.cmp with
    | nil => rw [hcm] at h; exact h.elim
    | cons d ds =>
    rw [hcm] at h
    simp only at h
    have h9 := eqCells_out h
    clear h
    obtain ⟨r, he, h⟩ := h9
    obtain ⟨_, _, _, _, _, _, _, _, hc⟩ := hT _ _ hti
    have hc := hc.1 (by rw [hcm]; simp)
    rw [hcm] at hc
    obtain ⟨hg, hq, _⟩ := hc
    have hf := eqC_flat he
    obtain rfl := flats_eq hl hf.1
    obtain rfl := flats_eq hm hf.2
    have hq := fun w => hq _ _ _ w he
    cases op <;> simp only at h
    all_goals first | exact h.elim | skip
    all_goals exact ⟨_, h, rfl, fun w _ => by simp [binOp, eqGuard, run_program, hg, hq]⟩
  · exact h.elim

theorem un_out {op : UnOp} {u u' : Value} {K : Value → Prop} (hu : RV β H nb u u') (h : aun op u K) : ∃ r, K r ∧ flat0 r = true ∧ RunsAny P (Op.unary op u') r := by
  unfold aun at h
  split at h
  · split at h
    · rw [bool_inv hu]; exact ⟨_, h, rfl, fun w _ => by simp [Op.unary]⟩
    · exact h.elim
  · split at h
    · rw [int_inv hu]; exact ⟨_, h, rfl, fun w _ => by simp [Op.unary, Op.intArith]⟩
    · exact h.elim
  · exact h.elim

theorem extract_out {x x' : Value} {i : Nat} {K : Value → Prop} (hx : RV β H nb x x') (h : aextract x i K) : ∃ v v', K v ∧ RV β H nb v v' ∧ RunsAny P (Instr.extract x' i) v' := by
  unfold aextract at h
  split at h
  case h_2 => exact h.elim
  rename_i l
  cases hx with
  | @tuple _ l' hl hr =>
  cases e : l[i]? with
  | none => rw [e] at h; exact h.elim
  | some v =>
    rw [e] at h
    have hlt : i < l.length := by
      rcases Nat.lt_or_ge i l.length with h1 | h1
      · exact h1
      · rw [List.getElem?_eq_none h1] at e; cases e
    have h1 := hr i hlt
    have e1 : l.getD i undef = v := by simp [List.getD_eq_getElem?_getD, e]
    rw [e1] at h1
    refine ⟨v, _, force_out h, h1, fun w _ => ?_⟩
    have hlt' : i < l'.length := hl ▸ hlt
    simp [Instr.extract, hlt', List.getD_eq_getElem?_getD]

theorem len_out {t : Nat} {x x' : Value} {K : Value → Prop} {ats : Array Nat} {ty : Nat} (hT : TOk P T) (R : Rel Fb β H nb W) (ha : ats[0]? = some t) (hx : RV β H nb x x') (h : alen T t x H K) :
    ∃ r, K r ∧ flat0 r = true ∧ RunsTo P W (Builtin.len_ ats ty #[x']) r := by
  obtain ⟨ti, hti, h⟩ := tyK_out h
  have hu := (hT _ _ hti).1
  cases ed : ti.desc <;> rw [ed] at h hu <;> simp only at h
  all_goals first | exact h.elim | skip
  · split at h
    · rw [string_inv hx]
      exact ⟨_, h, rfl, fun w _ => by simp [Builtin.len_, ha, run_und hu, goInt]⟩
    · exact h.elim
  · split at h
    · rename_i n c
      refine ⟨_, h, rfl, fun w _ => ?_⟩
      cases hx <;> simp [Builtin.len_, ha, run_und hu, goInt]
    · exact h.elim
  · refine ⟨_, h, rfl, fun w _ => ?_⟩
    simp [Builtin.len_, ha, run_und hu, goInt]
  · split at h
    · cases hx
      exact ⟨_, h, rfl, fun w _ => by simp [Builtin.len_, ha, run_und hu, goInt]⟩
    · rename_i r _
      cases hx with
      | @map _ r' hr hm hb =>
      cases e : H r <;> rw [e] at h <;> simp only at h
      all_goals first | exact h.elim | skip
      rename_i es
      refine ⟨_, h, rfl, fun w k => ?_⟩
      have ho := ObjOk.keep k R hr
      unfold ObjOk at ho
      rw [e] at ho
      obtain ⟨E, clk, h1, h2, _⟩ := ho
      rw [hb] at h1
      simp [Builtin.len_, ha, run_und hu, goInt, getObj, Sem.run, h1, h2.1]
    · exact h.elim

theorem minmax_out {mx : Bool} {x y x' y' : Value} {K : Value → Prop} (hx : RV β H nb x x') (hy : RV β H nb y y') (h : aminmax mx x y K) :
    ∃ r, K r ∧ flat0 r = true ∧ RunsAny P (if mx then Builtin.max2 x' y' else Builtin.min2 x' y') r := by
  unfold aminmax at h
  split at h
  · split at h
    · rw [int_inv hx, int_inv hy]
      cases mx
      · exact ⟨_, h, rfl, fun w _ => by simp [Builtin.min2]⟩
      · exact ⟨_, h, rfl, fun w _ => by simp [Builtin.max2]⟩
    · exact h.elim
  · exact h.elim

theorem foldMM_out {mx : Bool} : ∀ (l l' : List Value) {x x' : Value} {K : Value → Prop}, RV β H nb x x' → RVs β H nb l l' → foldMM mx x l K →
    ∃ r r', K r ∧ RV β H nb r r' ∧ RunsAny P (l'.foldlM (fun a b => if mx then Builtin.max2 a b else Builtin.min2 a b) x') r'
  | [], l', x, x', K, hx, hl, h => by
    have : l' = [] := List.eq_nil_of_length_eq_zero hl.1.symm
    subst this
    exact ⟨x, x', h, hx, fun w _ => by simp⟩
  | y :: l, l', x, x', K, hx, hl, h => by
    cases l' with
    | nil => have := hl.1; simp at this
    | cons y' l' =>
      have hy : RV β H nb y y' := by simpa using hl.2 0 (by simp)
      have hl' : RVs β H nb l l' := ⟨by simpa using hl.1, fun i hi => by simpa using hl.2 (i + 1) (by simpa using hi)⟩
      obtain ⟨r, h1, h2, h3⟩ := minmax_out (P := P) hx hy h
      obtain ⟨q, q', h4, h5, h6⟩ := foldMM_out l l' (flat0_refl (β := β) (H := H) (nb := nb) h2) hl' h1
      exact ⟨q, q', h4, h5, fun w k => by simp [h3 w k, h6 w k]⟩

theorem conv_out {s d : Nat} {x x' : Value} {K : Value → Prop} (hT : TOk P T) (hx : RV β H nb x x') (h : aconv T s d x K) :
    ∃ r, K r ∧ flat0 r = true ∧ RunsAny P (convert s d x') r := by
  obtain ⟨ts, hts, h⟩ := tyK_out h
  obtain ⟨td, htd, h⟩ := tyK_out h
  have hus := (hT _ _ hts).1
  have hud := (hT _ _ htd).1
  split at h
  · rw [int_inv hx]
    cases ed : td.desc <;> rw [ed] at h hud <;> simp only at h
    all_goals first | exact h.elim | skip
    refine ⟨_, h, rfl, fun w _ => ?_⟩
    simp [convert, run_und hus, run_und hud, Conv.intToInt]
  · rw [string_inv hx]
    cases ed : td.desc <;> rw [ed] at h hud <;> simp only at h
    all_goals first | exact h.elim | skip
    refine ⟨_, h, rfl, fun w _ => ?_⟩
    cases es : ts.desc <;> rw [es] at hus <;> simp [convert, run_und hus, run_und hud]
  · exact h.elim

theorem bound_out {x : Option Operand} {d top : Nat} {K : Nat → Prop} (hfr : ∀ k, RV β H nb (fr k) (a.tmps.getD k undef)) (h : abound fr x d top K) :
    ∃ n, K n ∧ ((x = none ∧ n = d) ∨ ∃ y k i, x = some y ∧ a.eval y = .int k i ∧ 0 ≤ i ∧ i ≤ (top : Int) ∧ n = i.toNat) := by
  unfold abound at h
  cases x with
  | none => exact ⟨d, h, .inl ⟨rfl, rfl⟩⟩
  | some y =>
    obtain ⟨v, h1, h2⟩ := rd_out hfr h
    cases v <;> simp only at h1
    all_goals first | exact h1.elim | skip
    rename_i k i
    obtain ⟨h3, h4⟩ := chk_out h1
    simp only [Bool.and_eq_true, decide_eq_true_eq] at h3
    exact ⟨_, h4, .inr ⟨y, k, i, rfl, int_inv h2, h3.1, h3.2, rfl⟩⟩

theorem run_sliceBound {w : World} {k : IntKind} {i : Int} {y : Nat} {c : BoundsCode} (h0 : 0 ≤ i) (h1 : i ≤ (y : Int)) : (Instr.sliceBound (.int k i) y c).run P w = .ok i.toNat w := by
  simp [Instr.sliceBound, asIntOf, h0, h1]

/-- Both bounds of a slice expression. 'top': what the upper one may be at most. -/
theorem run_bounds {w : World} {isSlice : Bool} {len cap : Nat} {hi lo : Option Operand} {hn ln : Nat} {top : Nat} (htop : top ≤ cap)
    (hh : (hi = none ∧ hn = len) ∨ ∃ y k i, hi = some y ∧ a.eval y = .int k i ∧ 0 ≤ i ∧ i ≤ (top : Int) ∧ hn = i.toNat)
    (hl : (lo = none ∧ ln = 0) ∨ ∃ y k i, lo = some y ∧ a.eval y = .int k i ∧ 0 ≤ i ∧ i ≤ (hn : Int) ∧ ln = i.toNat) :
    (Instr.sliceBounds isSlice len cap (lo.map a.eval) (hi.map a.eval) none).run P w = .ok (ln, hn, cap) w := by
  unfold Instr.sliceBounds
  rcases hh with ⟨rfl, rfl⟩ | ⟨y, k, i, rfl, ey, h0, h1, rfl⟩
  · rcases hl with ⟨rfl, rfl⟩ | ⟨z, k', j, rfl, ez, g0, g1, rfl⟩
    · simp
    · simp [ez, run_sliceBound g0 g1]
  · have hc : i ≤ (cap : Int) := by omega
    rcases hl with ⟨rfl, rfl⟩ | ⟨z, k', j, rfl, ez, g0, g1, rfl⟩
    · simp [ey, run_sliceBound h0 hc]
    · simp [ey, ez, run_sliceBound h0 hc, run_sliceBound g0 g1]

theorem RoomOk.add {b o ver es cap n : Nat} (h : RoomOk β H ⟨b, o, some ver⟩ es cap) (hn : n ≤ cap) : RoomOk β H ⟨b, o + n * es, some ver⟩ es (cap - n) := by
  unfold RoomOk at *
  cases e : H b <;> simp only [e] at h ⊢
  all_goals first | exact h.elim | skip
  intro hv
  have h1 := h hv
  have h2 : n * es + (cap - n) * es = cap * es := by rw [← Nat.add_mul]; congr 1; omega
  omega

theorem isZero_out {x : Option Operand} (h : isZero x = true) : ∃ k, x = some (.const (.int k 0)) := by
  unfold isZero at h
  split at h
  · exact ⟨_, rfl⟩
  · cases h

theorem slice3_out {t : Nat} {x x' : Value} {lo hi mx : Option Operand} {K : Value → Prop} (hT : TOk P T) (hx : RV β H nb x x') (h : aslice3 T t x lo hi mx K) :
    ∃ v v', K v ∧ RV β H nb v v' ∧ RunsAny P (Instr.sliceAt t x' (lo.map a.eval) (hi.map a.eval) (mx.map a.eval)) v' := by
  obtain ⟨h1, h2⟩ := chk_out h
  simp only [Bool.and_eq_true, Option.isNone_iff_eq_none] at h1
  obtain ⟨⟨rfl, hh⟩, hm⟩ := h1
  obtain ⟨k1, rfl⟩ := isZero_out hh
  obtain ⟨k2, rfl⟩ := isZero_out hm
  obtain ⟨ti, hti, h⟩ := tyK_out h2
  have hu := (hT _ _ hti).1
  cases ed : ti.desc <;> rw [ed] at h hu <;> simp only at h
  all_goals first | exact h.elim | skip
  rename_i e
  obtain ⟨te, hte, h⟩ := tyK_out h
  obtain ⟨_, ie, hie, hs, _⟩ := hT _ _ hte
  split at h
  · cases hx
    refine ⟨_, .slice none 0 0, h, .sl0 0 0, fun w k => ?_⟩
    simp [Instr.sliceAt, Instr.slice, run_und hu, Instr.sliceBounds, Instr.sliceBound, asIntOf, Act.eval, run_size hie]
  · rename_i b o sp len es _ _
    have hx' : b < nb ∧ ∃ a' len' cap', x' = .slice (some a') len' cap' := by
      cases hx with
      | slz hz => exact ⟨hz, _, _, _, rfl⟩
      | sl ha _ _ =>
        refine ⟨?_, _, _, _, rfl⟩
        cases sp <;> exact ha.1
    obtain ⟨hb, a', len', cap', rfl⟩ := hx'
    refine ⟨_, .slice (some a') 0 0, h, .slz hb, fun w k => ?_⟩
    simp [Instr.sliceAt, Instr.slice, run_und hu, Instr.sliceBounds, Instr.sliceBound, asIntOf, Act.eval, run_size hie]
  · exact h.elim

theorem slice_out {t : Nat} {x x' : Value} {lo hi mx : Option Operand} {K : Value → Prop} (hT : TOk P T) (R : Rel Fb β H nb W) (hfr : ∀ k, RV β H nb (fr k) (a.tmps.getD k undef)) (hx : RV β H nb x x') (h : aslice T t fr x lo hi mx K) :
    ∃ v v', K v ∧ RV β H nb v v' ∧ RunsAny P (Instr.sliceAt t x' (lo.map a.eval) (hi.map a.eval) (mx.map a.eval)) v' := by
  unfold aslice at h
  cases mx with
  | some m => exact slice3_out hT hx h
  | none =>
  simp only at h
  split at h
  · obtain ⟨ti, hti, h⟩ := tyK_out h
    have hu := (hT _ _ hti).1
    cases ed : ti.desc <;> rw [ed] at h hu <;> simp only at h
    all_goals first | exact h.elim | skip
    rename_i e
    obtain ⟨te, hte, h⟩ := tyK_out h
    obtain ⟨_, ie, hie, hs, _⟩ := hT _ _ hte
    obtain ⟨hn, h1, hh⟩ := bound_out hfr h
    obtain ⟨ln, h2, hl⟩ := bound_out hfr h1
    have hle : ln = 0 ∧ hn = 0 := by
      rcases hh with ⟨_, rfl⟩ | ⟨_, _, i, _, _, h0, h1, rfl⟩ <;> rcases hl with ⟨_, rfl⟩ | ⟨_, _, j, _, _, g0, g1, rfl⟩ <;> omega
    obtain ⟨rfl, rfl⟩ := hle
    cases hx
    refine ⟨_, .slice none 0 0, h2, .sl0 0 0, fun w k => ?_⟩
    have := run_bounds (P := P) (w := w) (isSlice := true) (Nat.le_refl 0) hh hl
    simp [Instr.sliceAt, Instr.slice, run_und hu, this, run_size hie]
  · rename_i s
    rw [string_inv hx]
    obtain ⟨ti, hti, h⟩ := tyK_out h
    have hu := (hT _ _ hti).1
    cases ed : ti.desc <;> rw [ed] at h hu <;> simp only at h
    all_goals first | exact h.elim | skip
    obtain ⟨hn, h1, hh⟩ := bound_out hfr h
    obtain ⟨ln, h2, hl⟩ := bound_out hfr h1
    refine ⟨_, .string (s.extract ln hn), h2, .string _, fun w k => ?_⟩
    have := run_bounds (P := P) (w := w) (isSlice := false) (Nat.le_refl s.size) hh hl
    simp [Instr.sliceAt, Instr.slice, run_und hu, this]
  · rename_i b o ver len es
    obtain ⟨ti, hti, h⟩ := tyK_out h
    have hu := (hT _ _ hti).1
    cases ed : ti.desc <;> rw [ed] at h hu <;> simp only at h
    all_goals first | exact h.elim | skip
    rename_i e
    obtain ⟨te, hte, h⟩ := tyK_out h
    obtain ⟨_, ie, hie, hs, _⟩ := hT _ _ hte
    obtain ⟨hn, h1, hh⟩ := bound_out hfr h
    obtain ⟨ln, h2, hl⟩ := bound_out hfr h1
    obtain ⟨h3, h4⟩ := chk_out h2
    have h3 : te.size = es := by simpa using h3
    have hle : ln ≤ hn ∧ hn ≤ len := by
      rcases hh with ⟨_, rfl⟩ | ⟨_, _, i, _, _, h0, h1, rfl⟩ <;> rcases hl with ⟨_, rfl⟩ | ⟨_, _, j, _, _, g0, g1, rfl⟩ <;> omega
    cases hx with
    | @slz _ a' _ hzb =>
      have e1 : hn = 0 := by omega
      have e2 : ln = 0 := by omega
      subst e1 e2
      refine ⟨_, .slice (some a') 0 0, h4, by rw [Nat.zero_mul, Nat.add_zero]; exact .slz hzb, fun w k => ?_⟩
      have := run_bounds (P := P) (w := w) (isSlice := true) (Nat.le_refl 0) hh hl
      simp [Instr.sliceAt, Instr.slice, run_und hu, this, run_size hie]
    | @sl _ a' _ _ cap ha hr hlc =>
      have hb := fun w => run_bounds (P := P) (w := w) (isSlice := true) hlc hh hl
      by_cases hc : cap = ln
      · subst hc
        have e1 : hn - cap = 0 := by omega
        refine ⟨_, .slice (some a') 0 0, h4, by rw [e1]; exact .slz ha.1, fun w k => ?_⟩
        simp [Instr.sliceAt, Instr.slice, run_und hu, hb w, run_size hie, e1]
      · refine ⟨_, .slice (some (a'.add (ln * te.size))) (hn - ln) (cap - ln), h4, ?_, fun w k => ?_⟩
        · refine .sl (ha.add (a := a')) ?_ (by omega)
          rw [h3]
          exact hr.add (by omega)
        · simp [Instr.sliceAt, Instr.slice, run_und hu, hb w, run_size hie, hs, hc]
  · rename_i b o ver
    obtain ⟨ti, hti, h⟩ := tyK_out h
    have hu := (hT _ _ hti).1
    cases ed : ti.desc <;> rw [ed] at h hu <;> simp only at h
    all_goals first | exact h.elim | skip
    rename_i n e
    obtain ⟨te, hte, h⟩ := tyK_out h
    obtain ⟨_, ie, hie, hs, _⟩ := hT _ _ hte
    obtain ⟨hn, h1, hh⟩ := bound_out hfr h
    obtain ⟨ln, h2, hl⟩ := bound_out hfr h1
    obtain ⟨h3, h4⟩ := chk_out h2
    have h3 : o + n * te.size ≤ ver := by simpa using h3
    have hle : ln ≤ hn ∧ hn ≤ n := by
      rcases hh with ⟨_, rfl⟩ | ⟨_, _, i, _, _, h0, h1, rfl⟩ <;> rcases hl with ⟨_, rfl⟩ | ⟨_, _, j, _, _, g0, g1, rfl⟩ <;> omega
    cases hx with
    | @ptr _ a' ha =>
    have hb := fun w => run_bounds (P := P) (w := w) (isSlice := false) (Nat.le_refl n) hh hl
    by_cases hc : n = ln
    · subst hc
      have e1 : hn - n = 0 := by omega
      refine ⟨_, .slice (some a') 0 0, h4, by rw [e1]; exact .slz ha.1, fun w k => ?_⟩
      simp [Instr.sliceAt, run_und hu, Instr.sureAddr, hb w, run_size hie, e1]
    · refine ⟨_, .slice (some (a'.add (ln * te.size))) (hn - ln) (n - ln), h4, ?_, fun w k => ?_⟩
      · refine .sl (ha.add (a := a')) ?_ (by omega)
        have hr : RoomOk β H ⟨b, o, some ver⟩ te.size n := by
          obtain ⟨hb1, hb2⟩ := ha
          have ho := R.objs b hb1
          unfold RoomOk
          unfold ObjOk at ho
          cases e : H b <;> simp only [e] at hb2 ho ⊢
          all_goals first | exact hb2.elim | skip
          intro hv
          obtain ⟨C, ty, fz, g1, g2, g3, _⟩ := ho
          omega
        exact hr.add (by omega)
      · simp [Instr.sliceAt, run_und hu, Instr.sureAddr, hb w, run_size hie, hs, hc]
  · exact h.elim

end Go.Eng
