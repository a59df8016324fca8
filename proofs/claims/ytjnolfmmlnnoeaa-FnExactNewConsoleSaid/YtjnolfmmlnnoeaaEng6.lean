/- A part of the interpreter of Go code, and of the proof that it says what Go does; no condition. -/
import Derived.Test.YtjnolfmmlnnoeaaEng5
set_option linter.unusedSimpArgs false
set_option linter.unusedVariables false
namespace Go.Eng
variable {P : Program} {T : TT}

def Enters (P : Program) (f : Nat) : Prop := ∃ fn, P.funcs[f]? = some fn ∧ fn.body.isNone = false ∧ (fn.name == "runtime.NumGoroutine") = false

/-- The meaning 'S' of function 'f' is what Go does. -/
def SoundW (P : Program) (f : Nat) (S : Sem1) : Prop :=
  ∀ args H nb K, S args H nb K → ∀ β W argsC, Rel β H nb W → RVs β H nb args argsC →
    Calls P f ⟨argsC⟩ W fun e W' => ∃ r H' nb' lo β' v', K r H' nb' lo ∧ e = .returned v' ∧ RV β' H' nb' r v' ∧ Rel β' H' nb' W' ∧ Foot W nb β H lo β' H' nb' W'

/-- The same of a function that answers with a value without an address, and leaves memory as it was. -/
def SoundQ (P : Program) (f : Nat) (S : Sem0) : Prop :=
  ∀ args H nb K, S args H nb K → ∃ r, K r ∧ flat r = true ∧ ∀ β W argsC, Rel β H nb W → RVs β H nb args argsC →
    Calls P f ⟨argsC⟩ W fun e W' => e = .returned r ∧ Keeps W W'

structure EnvOk (P : Program) (E : Env) : Prop where
  types : TOk P E.T
  mixed : P.follows .mixedOrders = true
  lex : ∀ ops, E.lex ops = true → Region.lexB .any ops = true
  calls : ∀ g args H nb K, E.G g args H nb K → Enters P g ∧ SoundW P g (E.G g)
  quiet : ∀ g args H nb K, E.Q g args H nb K → Enters P g ∧ SoundQ P g (E.Q g)

structure FrOk (N : Nat) (β : Be) (H : Hp) (nb : Nat) (fr : Fr) (a : Act) : Prop where
  size : a.tmps.size = N
  rel : ∀ k, RV β H nb (fr k) (a.tmps.getD k undef)
  defers : a.defers = []

theorem FrOk.ext {N : Nat} {β β' : Be} {H H' : Hp} {nb nb' : Nat} {fr : Fr} {a : Act} (h : FrOk N β H nb fr a) (e : Ext β H nb β' H' nb') : FrOk N β' H' nb' fr a :=
  ⟨h.size, fun k => (h.rel k).ext e, h.defers⟩

theorem FrOk.put {N : Nat} {β : Be} {H : Hp} {nb : Nat} {fr : Fr} {a : Act} (h : FrOk N β H nb fr a) {d : Nat} (hd : d < N) {v v' : Value} (hv : RV β H nb v v') : FrOk N β H nb (upd fr d v) (a.put (some d) v') := by
  refine ⟨by simp [Act.put, h.size], fun k => ?_, h.defers⟩
  by_cases e : k = d
  · subst e
    rw [upd_same]
    have : k < a.tmps.size := by rw [h.size]; exact hd
    simpa [Act.put, this] using hv
  · rw [upd_ne _ _ e]
    have := h.rel k
    simpa [Act.put, Array.getElem?_setIfInBounds, Ne.symm e] using this

/-- A slot that holds a known Bool is spelled so. -/
theorem FrOk.learn {N : Nat} {β : Be} {H : Hp} {nb : Nat} {fr : Fr} {a : Act} (h : FrOk N β H nb fr a) {d : Nat} {b : Bool} (hv : fr d = .bool b) : FrOk N β H nb (upd fr d (.bool b)) a := by
  refine ⟨h.size, fun k => ?_, h.defers⟩
  by_cases e : k = d
  · subst e; rw [upd_same, ← hv]; exact h.rel k
  · rw [upd_ne _ _ e]; exact h.rel k

/-- The state of a run of a function's body. -/
structure Inv (N : Nat) (W0 : World) (nb0 : Nat) (β0 : Be) (H0 : Hp) (s : St) (β : Be) (a : Act) (w : World) : Prop where
  rel : Rel β s.h s.nb w
  foot : Foot W0 nb0 β0 H0 s.lo β s.h s.nb w
  fr : FrOk N β s.h s.nb s.fr a

section
variable {E : Env} {W0 : World} {nb0 : Nat} {β0 : Be} {H0 : Hp}

theorem Inv.le {N : Nat} {s : St} {β : Be} {a : Act} {w : World} (I : Inv N W0 nb0 β0 H0 s β a w) : s.lo ≤ s.nb := Nat.le_trans I.foot.le I.foot.ext.le

theorem putK_out {s : St} {d : Option Nat} {v v' : Value} {K : St → Prop} {β : Be} {a : Act} {w : World} (I : Inv E.N W0 nb0 β0 H0 s β a w) (hv : RV β s.h s.nb v v') (h : putK E s d v K) :
    ∃ s', K s' ∧ Inv E.N W0 nb0 β0 H0 s' β (a.put d v') w ∧ s'.h = s.h ∧ s'.nb = s.nb := by
  obtain ⟨fr, H, nb, lo⟩ := s
  cases d with
  | none => exact ⟨_, h, ⟨I.rel, I.foot, I.fr⟩, rfl, rfl⟩
  | some d =>
    obtain ⟨h1, h2⟩ := chk_out h
    exact ⟨_, h2, ⟨I.rel, I.foot, I.fr.put (by simpa using h1) hv⟩, rfl, rfl⟩

/-- Memory has gone on; the frame has not. -/
theorem Inv.step {N : Nat} {fr : Fr} {H H' : Hp} {nb nb' lo lo' : Nat} {β β' : Be} {a : Act} {w w' : World} (I : Inv N W0 nb0 β0 H0 ⟨fr, H, nb, lo⟩ β a w) (R : Rel β' H' nb' w') (F : Foot w nb β H lo' β' H' nb' w') :
    Inv N W0 nb0 β0 H0 ⟨fr, H', nb', Nat.min lo lo'⟩ β' a w' :=
  ⟨R, I.foot.trans F, I.fr.ext F.ext⟩

theorem Inv.step_new {N : Nat} {fr : Fr} {H H' : Hp} {nb nb' lo : Nat} {β β' : Be} {a : Act} {w w' : World} (I : Inv N W0 nb0 β0 H0 ⟨fr, H, nb, lo⟩ β a w) (R : Rel β' H' nb' w') (F : Foot w nb β H nb β' H' nb' w') :
    Inv N W0 nb0 β0 H0 ⟨fr, H', nb', lo⟩ β' a w' := by
  have := I.step R F
  rwa [show Nat.min lo nb = lo from Nat.min_eq_left I.le] at this

theorem ro_step {o : Oper} {s : St} {K : St → Prop} {X : Prop} {β : Be} {a : Act} {w : World} (hE : EnvOk P E) (I : Inv E.N W0 nb0 β0 H0 s β a w) (he : ro E.T s.fr s.h o.op (fun v => putK E s o.dst v K) = some X) (h : X) :
    ∃ v v' s', K s' ∧ RV β s.h s.nb v v' ∧ Inv E.N W0 nb0 β0 H0 s' β (a.put o.dst v') w ∧ s'.h = s.h ∧ s'.nb = s.nb ∧ ∀ w', Keeps w w' → (execOp a.eval o).run P w' = .ok (.value v') w' := by
  obtain ⟨v, v', h1, h2, h3⟩ := ro_out hE.types I.rel I.fr.rel he h
  obtain ⟨s', h4, h5, h6, h7⟩ := putK_out I h2 h1
  exact ⟨v, v', s', h4, h2, h5, h6, h7, h3⟩

theorem bool_of_fr {N : Nat} {s : St} {β : Be} {a : Act} {w : World} (I : Inv N W0 nb0 β0 H0 s β a w) {d : Nat} {b : Bool} (h : s.fr d = .bool b) : a.tmps.getD d undef = .bool b := by
  have := I.fr.rel d
  rw [h] at this
  exact bool_inv this

/-- The operation 'pick'. -/
theorem pick_step {o : Oper} {c x y : Operand} {s : St} {K : St → Prop} {β : Be} {a : Act} {w : World} (I : Inv E.N W0 nb0 β0 H0 s β a w) (eo : o.op = .pick c x y) (h : aalloc E o s K) :
    ∃ v' s', K s' ∧ Inv E.N W0 nb0 β0 H0 s' β (a.put o.dst v') w ∧ s'.h = s.h ∧ s'.nb = s.nb ∧ ∀ w', (execOp a.eval o).run P w' = .ok (.value v') w' := by
  unfold aalloc at h
  rw [eo] at h
  simp only at h
  cases c <;> simp only at h
  all_goals first | exact h.elim | skip
  rename_i c
  obtain ⟨fr, H, nb, lo⟩ := s
  simp only at h
  cases ec : fr c <;> rw [ec] at h <;> simp only at h
  all_goals first | exact h.elim | skip
  rename_i b
  have hb := bool_of_fr (d := c) I ec
  rcases bcase_out h with ⟨rfl, h⟩ | ⟨rfl, h⟩
  · have I2 : Inv E.N W0 nb0 β0 H0 ⟨upd fr c (.bool true), H, nb, lo⟩ β a w := ⟨I.rel, I.foot, I.fr.learn ec⟩
    obtain ⟨v, h1, h2⟩ := rd_out I.fr.rel h
    obtain ⟨s', h4, h5, h6, h7⟩ := putK_out I2 h2 h1
    exact ⟨_, s', h4, h5, h6, h7, fun w' => by simp [execOp, eo, Act.eval, hb, asBool]⟩
  · have I2 : Inv E.N W0 nb0 β0 H0 ⟨upd fr c (.bool false), H, nb, lo⟩ β a w := ⟨I.rel, I.foot, I.fr.learn ec⟩
    obtain ⟨v, h1, h2⟩ := rd_out I.fr.rel h
    obtain ⟨s', h4, h5, h6, h7⟩ := putK_out I2 h2 h1
    exact ⟨_, s', h4, h5, h6, h7, fun w' => by simp [execOp, eo, Act.eval, hb, asBool]⟩

theorem new_step {s : St} {d : Option Nat} {K : St → Prop} {β : Be} {a : Act} {w : World} (I : Inv E.N W0 nb0 β0 H0 s β a w) {C : List Value} {t : TypeId} {n : Nat} {g : Nat → Value} (hn : C.length = n)
    (hg : ∀ i, i < C.length → RV β s.h s.nb (g i) (C.getD i undef)) (h : anew E s d n g K) :
    ∃ β' s', K s' ∧ Inv E.N W0 nb0 β0 H0 s' β' (a.put d (.pointer (some ⟨w.heap.size, 0, none⟩))) (w.alloc (.cells ⟨C⟩ t)) := by
  obtain ⟨fr, H, nb, lo⟩ := s
  subst hn
  have R' := I.rel.alloc (t := t) hg
  have F' := Foot.alloc (β := β) (H := H) (nb := nb) (w := w) (.cells ⟨C⟩ t) (.cells true C.length g) C.length
  have I' := I.step_new R' F'
  have ha : AddrOk (upd β nb ⟨w.heap.size, 0, C.length⟩) (upd H nb (.cells true C.length g)) (nb + 1) ⟨nb, 0, some C.length⟩ ⟨w.heap.size, 0, none⟩ := by
    refine ⟨Nat.lt_succ_self _, ?_⟩
    rw [upd_same]
    exact ⟨Nat.le_refl _, fun _ => by rw [upd_same]⟩
  obtain ⟨s', h1, h2, _, _⟩ := putK_out I' (.ptr ha) h
  exact ⟨_, s', h1, h2⟩

theorem run_callFunc {f : Nat} {args : Array Value} {w : World} (h : Enters P f) : (callFunc f args).run P w = .ok (.enter f args) w := by
  obtain ⟨fn, h1, h2, h3⟩ := h
  simp only [callFunc, Sem.run_bind, run_program, Result.andThen_ok, h1, h3, h2, Bool.false_eq_true, if_false, Sem.run_pure]

theorem call_args {x : Operand} {args : Array Operand} {ats : Array TypeId} {o : Oper} {a : Act} {g : Nat} {first cap : List Value} {w : World} (eo : o.op = .call ⟨.value x, args, ats⟩) (hx : a.eval x = .func (.func g) ⟨first⟩ ⟨cap⟩) (hg : Enters P g) :
    (execOp a.eval o).run P w = .ok (.enter g ⟨first ++ args.toList.map a.eval ++ cap⟩) w := by
  have e1 : (⟨first⟩ : Array Value) ++ args.map a.eval ++ (⟨cap⟩ : Array Value) = ⟨first ++ args.toList.map a.eval ++ cap⟩ := Array.ext' (by simp)
  simp only [execOp, eo, resolve, hx, Deferred.ofValue, Sem.run_bind, Sem.run_pure, Result.andThen_ok, invoke, e1, run_callFunc hg]

theorem RVs.append {β : Be} {H : Hp} {nb : Nat} {l l' m m' : List Value} (h : RVs β H nb l l') (h' : RVs β H nb m m') : RVs β H nb (l ++ m) (l' ++ m') := by
  refine ⟨by simp [h.1, h'.1], fun i hi => ?_⟩
  rcases Nat.lt_or_ge i l.length with h1 | h1
  · have h2 : i < l'.length := h.1 ▸ h1
    simpa [List.getD_eq_getElem?_getD, List.getElem?_append_left h1, List.getElem?_append_left h2] using h.2 i h1
  · have h2 : l'.length ≤ i := h.1 ▸ h1
    simp only [List.length_append] at hi
    simpa [List.getD_eq_getElem?_getD, List.getElem?_append_right h1, List.getElem?_append_right h2, h.1] using h'.2 (i - l.length) (by omega)

theorem func_inv {β : Be} {H : Hp} {nb : Nat} {fn : Fn} {f c : List Value} {v' : Value} (h : RV β H nb (.func fn ⟨f⟩ ⟨c⟩) v') : ∃ f' c', v' = .func fn ⟨f'⟩ ⟨c'⟩ ∧ RVs β H nb f f' ∧ RVs β H nb c c' := by
  cases h with
  | func _ h1 h2 h3 h4 => exact ⟨_, _, rfl, ⟨h1, h2⟩, ⟨h3, h4⟩⟩

/-- **AN OPERATION**, in a region that draws no order. -/
theorem aop_out {o : Oper} {s : St} {K : St → Prop} {β : Be} {a : Act} {w : World} {next : Act → World → Prop} {Q : Exit → Act → World → Prop} (hE : EnvOk P E) (I : Inv E.N W0 nb0 β0 H0 s β a w) (h : aop E o s K)
    (hn : ∀ s' β' a' w', K s' → Inv E.N W0 nb0 β0 H0 s' β' a' w' → next a' w') : o.wp P a w next Q := by
  unfold aop at h
  cases he : ro E.T s.fr s.h o.op (fun v => putK E s o.dst v K) with
  | some X =>
    rw [he] at h
    obtain ⟨v, v', s', h1, h2, h3, h4, h5, h6⟩ := ro_step hE I he h
    unfold Oper.wp
    rw [h6 w (Keeps.refl w), Oper.upon_value]
    exact hn _ _ _ _ h1 h3
  | none =>
    rw [he] at h
    clear he
    simp only at h
    have h0 := h
    unfold aalloc at h
    cases eo : o.op <;> rw [eo] at h <;> simp only at h
    all_goals first | exact h.elim | skip
    case pick c x y =>
      obtain ⟨v', s', h1, h2, h3, h4, h5⟩ := pick_step (P := P) I eo h0
      unfold Oper.wp
      rw [h5 w, Oper.upon_value]
      exact hn _ _ _ _ h1 h2
    case alloc t =>
      obtain ⟨ti, hti, h⟩ := tyK_out h
      obtain ⟨hu, i, hi, hs, hby, ⟨z, hz, hzc⟩, hlen, hflat⟩ := hE.types _ _ hti
      obtain ⟨β', s', h1, h2⟩ := new_step (t := t) (C := ti.zero) I hlen (fun i hi => flat0_refl (getD_all hflat hi)) h
      have hrun : (execOp a.eval o).run P w = .ok (.value (.pointer (some ⟨w.heap.size, 0, none⟩))) (w.alloc (.cells ⟨ti.zero⟩ t)) := by
        simp [execOp, eo, Instr.alloc, zeroValue, run_ti hi, hz, newVar, newRow, hzc]
      unfold Oper.wp
      rw [hrun, Oper.upon_value]
      exact hn _ _ _ _ h1 h2
    case box t x =>
      obtain ⟨v, h1, h2⟩ := rd_out I.fr.rel h
      obtain ⟨cs, cs', h3, h4, h5⟩ := cells_out h2 h1
      obtain ⟨ti, hti, h⟩ := tyK_out h3
      obtain ⟨h6, h7⟩ := chk_out h
      obtain ⟨β', s', h8, h9⟩ := new_step (t := t) (C := cs') I (by rw [← h4.1]; simpa using h6) (fun i hi => h4.2 i (h4.1 ▸ hi)) h7
      have hrun : (execOp a.eval o).run P w = .ok (.value (.pointer (some ⟨w.heap.size, 0, none⟩))) (w.alloc (.cells ⟨cs'⟩ t)) := by
        simp [execOp, eo, Instr.box, newVar, newRow, h5]
      unfold Oper.wp
      rw [hrun, Oper.upon_value]
      exact hn _ _ _ _ h8 h9
    case store t p x =>
      obtain ⟨pv, h1, h2⟩ := rd_out I.fr.rel h
      obtain ⟨v, h3, h4⟩ := rd_out I.fr.rel h1
      unfold astore at h3
      split at h3
      case h_2 => exact h3.elim
      rename_i b off ver
      obtain ⟨fr, H, nb, lo⟩ := s
      simp only at h3
      cases eb : H b <;> simp only [eb] at h3
      case cells own n g =>
      cases own
      · exact h3.elim
      simp only at h3
      obtain ⟨ti, hti, h3⟩ := tyK_out h3
      obtain ⟨hu, i, hi, hs, _⟩ := hE.types _ _ hti
      obtain ⟨cs, cs', h5, h6, h7⟩ := cells_out h4 h3
      obtain ⟨h8, h9⟩ := chk_out h5
      simp only [Bool.and_eq_true, Nat.beq_eq, Nat.ble_eq] at h8
      obtain ⟨⟨⟨hv1, hv2⟩, hv3⟩, hv4⟩ := h8
      generalize hpv : a.eval p = pc at h2
      cases h2 with
      | @ptr _ a' ha =>
      obtain ⟨hb, ha⟩ := ha
      simp only at hb ha
      rw [eb] at ha
      obtain rfl := ha.2 hv1.symm
      have hob := I.rel.objs b hb
      unfold ObjOk at hob
      simp only at hob
      rw [eb] at hob
      obtain ⟨C, ty, fz, q1, q2, q3, q4, q5⟩ := hob
      have q6 := q5 (by trivial)
      obtain ⟨C⟩ := C
      have hsh := q6.1
      have hle : off + 0 + cs'.length ≤ C.length := by rw [← h6.1]; have q3' : (β b).sh + n ≤ C.length := q3; omega
      have hones : ∀ x ∈ cs', isOne x = true := by
        intro x hx
        obtain ⟨j, hj, rfl⟩ := List.getElem_of_mem hx
        have := h6.2 j (h6.1 ▸ hj)
        have h1 := isOne_of this (getD_all hv4 (h6.1 ▸ hj))
        simpa [List.getD_eq_getElem?_getD, hj] using h1
      have hrun := run_storeCells' (P := P) (β b).blk off ty fz cs' 0 C w q1 hle (by simpa using q6.2) hones
      try simp only [Nat.add_zero] at hrun
      have hexec : (execOp a.eval o).run P w = .ok .skip { w with heap := w.heap.setIfInBounds (β b).blk (.cells ⟨putCells C off cs'⟩ ty fz) } := by
        have hsz : v.cells.size = v.cells.size := rfl
        have hcs : (a.eval x).cells.size = i.size := by rw [h7, hs, ← hv3, h6.1]; simp
        simp only [execOp, eo, hpv, Instr.storeAt, Instr.sureAddr, hsh, Nat.zero_add, storeVar, Sem.run_bind, Sem.run_pure, Result.andThen_ok, run_size hi, hcs]
        simp only [ne_eq, not_true_eq_false, if_false, Sem.run_bind, Sem.run_pure, Result.andThen_ok, h7, hrun]
      have hw := I.rel.write (g' := setCells g off cs) (C' := putCells C off cs') (t := ty) (fz := fz) hb eb ⟨C, ty, q1, rfl, (putCells_length _ _ _).symm⟩ (by rw [putCells_length]; simpa using q6.2)
        (by rw [putCells_length]; have q3' : (β b).sh + n ≤ C.length := q3; omega) (fun j hj => ?_)
      · have I' := I.step hw.1 hw.2
        obtain ⟨s', g1, g2, _, _⟩ := putK_out I' RV.undef h9
        unfold Oper.wp
        rw [hexec, Oper.upon_skip]
        exact hn _ _ _ _ g1 g2
      · rw [setCells_at, putCells_getD _ _ _ _ (by omega), h6.1]
        by_cases hj2 : off ≤ j ∧ j < off + cs'.length
        · rw [if_pos hj2, if_pos hj2]; exact h6.2 _ (by rw [h6.1]; omega)
        · rw [if_neg hj2, if_neg hj2]
          obtain ⟨v', r1, r2⟩ := q4 j hj
          rw [hsh, Nat.zero_add] at r1
          have : C.getD j undef = v' := by simpa [List.getD_eq_getElem?_getD] using congrArg (fun z => z.getD undef) r1
          rw [this]; exact r2
    case call c =>
      obtain ⟨cal, args, ats⟩ := c
      cases cal <;> simp only at h
      all_goals first | exact h.elim | skip
      rename_i x
      obtain ⟨fv, h1, h2⟩ := rd_out I.fr.rel h
      split at h1
      case h_2 => exact h1.elim
      rename_i g first cap
      obtain ⟨first', cap', hx, hf, hc⟩ := func_inv h2
      obtain ⟨vs, h3, h4⟩ := rdAll_out I.fr.rel _ h1
      obtain ⟨fr, H, nb, lo⟩ := s
      simp only at h3
      obtain ⟨hent, hsound⟩ := hE.calls _ _ _ _ _ h3
      have hcall := hsound _ _ _ _ h3 β w _ I.rel ((hf.append h4).append hc)
      unfold Oper.wp
      rw [call_args eo hx hent, Oper.upon_enter]
      refine hcall.mono fun e W' ⟨r, H', nb', lo', β', v', k1, k2, k3, k4, k5⟩ => ?_
      subst k2
      have I' := I.step k4 k5
      obtain ⟨s', g1, g2, _, _⟩ := putK_out I' k3 k1
      exact hn _ _ _ _ g1 g2

end
end Go.Eng
