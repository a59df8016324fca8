/- A part of the interpreter of Go code, and of the proof that it says what Go does; no condition. -/
import Derived.Test.YtnnfbgonjonflaaEng6
import Derived.OrdersHeld
set_option linter.unusedSimpArgs false
set_option linter.unusedVariables false
namespace Go.Eng
variable {Fb : Nat}
variable {P : Program} {E : Env} {l0 : Nat} {W0 : World} {nb0 : Nat} {β0 : Be} {H0 : Hp}

theorem yielded_of {ops : Array Oper} {tmps : Array Value} {j d : Nat} {b : Bool} (hd : (ops[j]?).bind (·.dst) = some d) (ht : tmps.getD d undef = .bool b) : yielded ops tmps j = some b := by
  have h1 : tmps[d]? = some (.bool b) := by
    rw [Array.getD_eq_getD_getElem?] at ht
    cases e : tmps[d]? with
    | none => rw [e] at ht; simp [undef] at ht
    | some v => rw [e] at ht; simp at ht; rw [ht]
  simp [yielded, hd, h1]

theorem yielded_none {ops : Array Oper} {tmps : Array Value} {j d : Nat} (hd : (ops[j]?).bind (·.dst) = some d) (ht : tmps.getD d undef = .tuple ⟨[]⟩) : yielded ops tmps j = none := by
  rw [Array.getD_eq_getD_getElem?] at ht
  cases e : tmps[d]? with
  | none => simp [yielded, hd, e]
  | some v =>
    rw [e] at ht
    simp only [Option.getD_some] at ht
    simp [yielded, hd, e, ht]

/-- A guard: the operation is carried out, or passed over. -/
theorem guard_out {N : Nat} {ops : Array Oper} {o : Oper} {s : St} {X Y : St → Prop} {β : Be} {a : Act} {w : World} (I : Inv Fb N l0 W0 nb0 β0 H0 s β a w) (h : guardOf ops s o X Y) :
    ∃ s', Inv Fb N l0 W0 nb0 β0 H0 s' β a w ∧ s'.h = s.h ∧ s'.nb = s.nb ∧ ((Region.wanted o (yielded ops a.tmps) = true ∧ X s') ∨ (Region.wanted o (yielded ops a.tmps) = false ∧ Y s')) := by
  unfold guardOf at h
  cases eg : o.guard with
  | none => rw [eg] at h; exact ⟨s, I, rfl, rfl, .inl ⟨by simp [Region.wanted, eg], h⟩⟩
  | some g =>
    obtain ⟨j, want⟩ := g
    rw [eg] at h
    simp only at h
    cases ed : (ops[j]?).bind (·.dst) with
    | none => rw [ed] at h; exact h.elim
    | some d =>
      rw [ed] at h
      obtain ⟨fr, H, nb, lo⟩ := s
      simp only at h
      cases ef : fr d <;> simp only [ef] at h
      case tuple t =>
        obtain ⟨t⟩ := t
        cases t with
        | cons x t => exact h.elim
        | nil =>
          have hr := I.fr.rel d
          simp only [ef] at hr
          have ht : a.tmps.getD d undef = .tuple ⟨[]⟩ := by
            generalize a.tmps.getD d undef = y at hr
            cases hr with
            | @tuple _ l' hl _ =>
              obtain rfl : l' = [] := List.eq_nil_of_length_eq_zero (by simpa using hl.symm)
              rfl
          have hy := yielded_none ed ht
          exact ⟨_, I, rfl, rfl, .inr ⟨by simp [Region.wanted, eg, hy], h⟩⟩
      case bool b =>
      have hb := bool_of_fr (d := d) I ef
      have hy := yielded_of ed hb
      have I2 : Inv Fb N l0 W0 nb0 β0 H0 ⟨upd fr d (.bool b), H, nb, lo⟩ β a w := ⟨I.rel, I.foot, I.fr.learn ef, I.lole⟩
      refine ⟨_, I2, rfl, rfl, ?_⟩
      cases want <;> cases b <;> simp only [bcase] at h
      · exact .inl ⟨by simp [Region.wanted, eg, hy], h⟩
      · exact .inr ⟨by simp [Region.wanted, eg, hy], h⟩
      · exact .inr ⟨by simp [Region.wanted, eg, hy], h⟩
      · exact .inl ⟨by simp [Region.wanted, eg, hy], h⟩


/-! ### A region that draws its order -/

section
variable {ops : Array Oper} {Q : Exit → Act → World → Prop} {isK : Nat → Bool}

/-- Operation number 'i' leaves what was as it was. -/
def keepsI (isK : Nat → Bool) (ops : Array Oper) (i : Nat) : Bool := match ops[i]? with | some o => Nat.ble (opCls isK o) 3 | none => true

theorem put_getD {a : Act} {x : Option Nat} {v : Value} {d : Nat} (h : x ≠ some d) : (a.put x v).tmps.getD d undef = a.tmps.getD d undef := by
  cases x with
  | none => rfl
  | some y =>
    have hy : y ≠ d := fun e => h (by rw [e])
    simp [Act.put, Array.getD_eq_getD_getElem?, Array.getElem?_setIfInBounds, hy]

theorem wp_put {o : Oper} {a : Act} {w : World} {K : Act → World → Prop} {Q : Exit → Act → World → Prop} (h : o.wp P a w K Q) :
    o.wp P a w (fun a' w' => (∀ d, o.dst ≠ some d → a'.tmps.getD d undef = a.tmps.getD d undef) ∧ K a' w') Q := by
  unfold Oper.wp at *
  generalize (execOp a.eval o).run P w = r at *
  cases r with
  | ok n w' =>
    cases n <;> simp only [Oper.upon] at h ⊢
    case value u => exact ⟨fun d hd => put_getD hd, h⟩
    case skip => exact ⟨fun d hd => put_getD hd, h⟩
    case defer x => exact ⟨fun d hd => put_getD hd, h⟩
    case enter f args =>
      refine Calls.mono h fun e w'' he => ?_
      cases e with
      | returned u => exact ⟨fun d hd => put_getD hd, he⟩
      | _ => exact he
    case row row args => exact Rows.mono h fun u w'' he => ⟨fun d hd => put_getD hd, he⟩
  | halt x w' => cases x <;> exact h

theorem wpOp_put {i : Nat} {K : Act → World → Prop} {a : Act} {w : World} (h : wpOp P ops Q i K a w) :
    wpOp P ops Q i (fun a' w' => (∀ o d, ops[i]? = some o → o.dst ≠ some d → a'.tmps.getD d undef = a.tmps.getD d undef) ∧ K a' w') a w := by
  unfold wpOp at *
  cases ho : ops[i]? with
  | none => rw [ho] at h; exact ⟨fun o d h => (by cases h), h⟩
  | some o =>
    rw [ho] at h
    simp only at h ⊢
    split
    · rename_i hw
      rw [if_pos hw] at h
      refine h.imp (fun h => Oper.wp_mono (fun a' w' ⟨h1, h2⟩ => ⟨fun o' d ho' hd => ?_, h2⟩) (wp_put h)) id
      obtain rfl := Option.some.inj ho'
      exact h1 d hd
    · rename_i hw
      rw [if_neg hw] at h
      refine ⟨fun o' d ho' hd => ?_, h⟩
      obtain rfl := Option.some.inj ho'
      exact put_getD hd

theorem wAdr_mem {o : Oper} {x : Operand} (h : wAdr o = some x) : x ∈ o.op.operands.toList := by
  unfold wAdr at h
  split at h
  · rename_i eo
    obtain rfl := Option.some.inj h
    simp [eo, Op.operands]
  · rename_i eo
    rw [eo]
    have := List.mem_of_getElem? h
    simp only [Op.operands, Call.operands, Array.toList_append, List.mem_append]
    first | exact .inr this | exact .inl this | exact this
  · cases h

/-- What is known of a step. -/
def Fact (isK : Nat → Bool) (ops : Array Oper) (i : Nat) (a : Act) (w : World) (w' : World) : Prop :=
  (keepsI isK ops i = true → Keeps w w') ∧ ∀ o x, ops[i]? = some o → wAdr o = some x → OnlyAt (a.eval x) w w'

def wpAnyG (P : Program) (isK : Nat → Bool) (ops : Array Oper) (Q : Exit → Act → World → Prop) : Nat → Array Bool → Act → World → Prop
  | 0, listed, a, w => Region.ready .any ops listed = [] ∧ Q .normal a w
  | fuel + 1, listed, a, w =>
    (Region.ready .any ops listed = [] → Q .normal a w) ∧
    ∀ i ∈ Region.ready .any ops listed, wpOp P ops Q i (fun a' w' => Fact isK ops i a w w' ∧ wpAnyG P isK ops Q fuel (listed.setIfInBounds i true) a' w') a w

theorem wpAny_of_G : ∀ (fuel : Nat) (listed : Array Bool) (a : Act) (w : World), wpAnyG P isK ops Q fuel listed a w → wpAny P .any ops Q fuel listed a w
  | 0, _, _, _, h => h
  | fuel + 1, _, _, _, h => ⟨h.1, fun i hi => wpOp_mono (fun a' w' h' => wpAny_of_G fuel _ a' w' h'.2) (h.2 i hi)⟩

theorem some_lt {w : World} {Y : Nat} (h : (w.heap[Y]?).isSome = true) : Y < w.heap.size := by
  rcases Nat.lt_or_ge Y w.heap.size with h1 | h1
  · exact h1
  · rw [Array.getElem?_eq_none h1] at h; cases h

/-- What a value stands on, in a world: nothing; one block; all that was. -/
def Holds (st : Bool) (X : Option Nat) (w w' : World) : Prop := st = true ∨ match X with | none => Keeps w w' | some X => w'.heap[X]? = w.heap[X]?

theorem Holds.refl (st : Bool) (X : Option Nat) (w : World) : Holds st X w w := by
  right
  cases X with
  | none => exact Keeps.refl w
  | some X => rfl

theorem Holds.trans {st : Bool} {X : Option Nat} {w w' w'' : World} (h : Holds st X w w') (k : Holds st X w' w'') : Holds st X w w'' := by
  rcases h with h | h
  · exact .inl h
  rcases k with k | k
  · exact .inl k
  right
  cases X with
  | none => exact Keeps.trans h k
  | some X => exact Eq.trans k h

/-- A value that names no address in the block. -/
def blkNe (v : Value) (X : Nat) : Prop := (∀ a n c, v = .slice (some a) n c → c = 0 ∨ a.block ≠ X) ∧ (∀ a, v = .pointer (some a) → a.block ≠ X)

/-- An operation does no harm to what hangs on 'X'; 'xs': temporaries that name other blocks. -/
def harmless (isK : Nat → Bool) (ops : Array Oper) (X : Option Nat) (xs : List Nat) (j : Nat) : Prop :=
  keepsI isK ops j = true ∨ (X.isSome = true ∧ ∃ o x, ops[j]? = some o ∧ wAdr o = some (.tmp x) ∧ x ∈ xs)

/-- **An operation that may come up now may be taken first.** 'st': what it yields hangs on no world; 'X': on one block. -/
theorem wpAnyG_first {i : Nat} {oi : Oper} {v : Value} {st : Bool} {X : Option Nat} {xs : List Nat} {D : List Nat} (hD : ∀ j ∈ D, j ≠ i → ∃ oj, ops[j]? = some oj ∧ ∃ e ∈ oj.after, Region.binds .any e = true ∧ e.on ∈ D) (hi : ops[i]? = some oi) (hsel : ∀ (j : Nat) (o : Oper) cs b, ops[j]? = some o → o.op ≠ .select cs b)
    (hxi : ∀ x ∈ xs, oi.dst ≠ some x) (hstX : st = true → X = none) (hQ : ∀ c a w, Q (.panic c) (a.put oi.dst v) w → Q (.panic c) a w) :
    ∀ (fuel : Nat) (listed : Array Bool) (a : Act) (w : World), (∀ j ∈ D, listed.getD j false = false) →
      (∀ j oj, ops[j]? = some oj → j ≠ i → listed.getD j true = false → j ∉ D → oi.apart ops oj = true ∧ (st = true ∨ harmless isK ops X xs j) ∧ ∀ x ∈ xs, oj.dst ≠ some x) →
      (∀ Y, X = some Y → (w.heap[Y]?).isSome = true ∧ ∀ x ∈ xs, blkNe (a.tmps.getD x undef) Y) →
      i ∈ Region.ready .any ops listed → YieldsIf P ops (Holds st X w) oi v a →
      wpAnyG P isK ops Q fuel (listed.setIfInBounds i true) (a.put oi.dst v) w → wpAnyG P isK ops Q (fuel + 1) listed a w := by
  have fi : ∀ (a : Act) (w : World), Fact isK ops i a w w := fun a w => ⟨fun _ => Keeps.refl w, fun o x ho _ => OnlyAt.refl _ _⟩
  intro fuel
  induction fuel with
  | zero =>
    intro listed a w _ _ _ hr hy H
    refine ⟨fun h => (by rw [h] at hr; cases hr), fun j hj => ?_⟩
    by_cases hji : j = i
    · subst hji; exact hy.wpOp hi (Holds.refl _ _ w) ⟨fi a w, H⟩
    · have := ready_mono hj hji
      rw [H.1] at this
      cases this
  | succ fuel ih =>
    intro listed a w hDl hfree hXs hr hy H
    refine ⟨fun h => (by rw [h] at hr; cases hr), fun j hj => ?_⟩
    by_cases hji : j = i
    · subst hji; exact hy.wpOp hi (Holds.refl _ _ w) ⟨fi a w, H⟩
    · have h1 := H.2 j (ready_mono hj hji)
      obtain ⟨hjun, oj, hoj, hall⟩ := mem_ready.1 hj
      have hjD : j ∉ D := fun hm => by
        obtain ⟨oj', h1, e, he, hb, hm⟩ := hD j hm hji
        rw [hoj] at h1
        obtain rfl := Option.some.inj h1
        have := hall e he hb
        rw [hDl _ hm] at this; cases this
      obtain ⟨hap, hst, hxj⟩ := hfree j oj hoj hji hjun hjD
      have hlook := (Oper.apart_spec hap).1
      have hdd := (Oper.apart_spec hap).2.1
      have h2 := wpOp_putIf hoj hap (fun cs b => hsel i oi cs b hi) (fun cs b => hsel j oj cs b hoj) hQ hy h1
      have hfree' : ∀ k ok, ops[k]? = some ok → k ≠ i → (listed.setIfInBounds j true).getD k true = false →
          k ∉ D → oi.apart ops ok = true ∧ (st = true ∨ harmless isK ops X xs k) ∧ ∀ x ∈ xs, ok.dst ≠ some x := fun k ok hk hki hun hno => by
        refine hfree k ok hk hki ?_ hno
        by_cases hjk : j = k
        · subst hjk; exact hjun
        · rw [getD_set_ne true hjk] at hun; exact hun
      refine wpOp_mono (fun a' w' h3 => ?_) (wpOp_put h2)
      obtain ⟨htm, hy', ⟨hf1, hf2⟩, hrest⟩ := h3
      have hev : ∀ x, wAdr oj = some x → (a.put oi.dst v).eval x = a.eval x := fun x hx => Act.eval_put fun d hd hxd => hlook d hd (by
        subst hxd
        exact List.mem_append_left _ (List.mem_filterMap.2 ⟨.tmp d, wAdr_mem hx, rfl⟩))
      have hF : Fact isK ops j a w w' := ⟨hf1, fun o x ho hx => by
        rw [hoj] at ho
        obtain rfl := Option.some.inj ho
        rw [← hev x hx]; exact hf2 oj x hoj hx⟩
      have hH : Holds st X w w' := by
        rcases hst with hst | hst | ⟨hX, o, x, ho, hx, hxm⟩
        · exact .inl hst
        · right
          cases X with
          | none => exact hF.1 hst
          | some Y => exact (hF.1 hst).heap Y (some_lt (hXs Y rfl).1)
        · right
          rw [hoj] at ho
          obtain rfl := Option.some.inj ho
          cases X with
          | none => cases hX
          | some Y =>
            obtain ⟨h4, h5⟩ := hXs Y rfl
            obtain ⟨h6, h7⟩ := h5 x hxm
            exact hF.2 oj _ hoj hx Y (some_lt h4) h6 h7
      refine ⟨hF, ih (listed.setIfInBounds j true) a' w' (fun k hk => by rw [getD_set_ne false (fun e : j = k => hjD (e ▸ hk))]; exact hDl k hk) hfree' (fun Y hY => ?_) (ready_mono hr (Ne.symm hji)) ?_ ?_⟩
      · obtain ⟨h4, h5⟩ := hXs Y hY
        refine ⟨?_, fun x hx => by rw [htm oj x hoj (hxj x hx)]; exact h5 x hx⟩
        subst hY
        rcases hH with h | h
        · cases hstX h
        · rw [show w'.heap[Y]? = w.heap[Y]? from h]; exact h4
      · exact hy'.imp (fun ⟨g1, g2⟩ => ⟨g1, fun w'' hw => g2 w'' (hH.trans hw)⟩) id
      · rw [Array.setIfInBounds_comm _ _ hji]
        exact hrest
end

theorem mask_out {N : Nat} {s : St} {β : Be} {a : Act} {w : World} {l : List Nat} {K : St → Prop} (I : Inv Fb N l0 W0 nb0 β0 H0 s β a w) (h : maskK l s K) :
    ∃ s', K s' ∧ Inv Fb N l0 W0 nb0 β0 H0 s' β a w ∧ ∀ d ∈ l, s'.fr d = unk := by
  unfold maskK at h
  split at h
  · exact ⟨s, h, I, fun d hd => by cases hd⟩
  · obtain ⟨fr, H, nb, lo⟩ := s
    have key : ∀ l : List Nat, (∀ k, RV β H nb (maskF fr l k) (a.tmps.getD k undef)) ∧ ∀ d ∈ l, maskF fr l d = unk := by
      intro l
      induction l with
      | nil => exact ⟨I.fr.rel, fun d hd => by cases hd⟩
      | cons d l ih =>
        refine ⟨fun k => ?_, fun k hk => ?_⟩
        · show RV β H nb (upd (maskF fr l) d unk k) _
          by_cases e : k = d
          · subst e; rw [upd_same]; exact .unk _
          · rw [upd_ne _ _ e]; exact ih.1 k
        · show upd (maskF fr l) d unk k = unk
          by_cases e : k = d
          · subst e; rw [upd_same]
          · rw [upd_ne _ _ e]
            rcases List.mem_cons.1 hk with h | h
            · exact absurd h e
            · exact ih.2 k h
    exact ⟨_, h, ⟨I.rel, I.foot, ⟨I.fr.size, (key _).1, I.fr.defers⟩, I.lole⟩, (key _).2⟩

theorem Inv.keep {N : Nat} {s : St} {β : Be} {a : Act} {w w' : World} (I : Inv Fb N l0 W0 nb0 β0 H0 s β a w) (k : Keeps w w') : Inv Fb N l0 W0 nb0 β0 H0 s β a w' := by
  have F : Foot w s.nb β s.h s.nb β s.h s.nb w' := ⟨k.size, fun j hj _ => k.heap j hj, fun b hb => .inl ⟨hb, rfl⟩, Nat.le_refl _, Ext.refl _ _ _, k.same⟩
  obtain ⟨fr, H, nb, lo⟩ := s
  exact I.step_new (I.rel.keep k) F

/-- Blocks of which nothing is known may lie anywhere. -/
theorem Inv.rebe {N : Nat} {s : St} {β : Be} {a : Act} {w : World} (I : Inv Fb N l0 W0 nb0 β0 H0 s β a w) (x : Nat) (hx : W0.heap.size ≤ x) : Inv Fb N l0 W0 nb0 β0 H0 s (fun b => bif isNone (s.h b) then ⟨x, 0, 0⟩ else β b) a w := by
  have same : ∀ b, isNone (s.h b) = false → (bif isNone (s.h b) then (⟨x, 0, 0⟩ : Bl) else β b) = β b := fun b h => by rw [h]; rfl
  have ex : Ext β s.h s.nb (fun b => bif isNone (s.h b) then ⟨x, 0, 0⟩ else β b) s.h s.nb := by
    refine ⟨Nat.le_refl _, fun b _ => ?_⟩
    unfold ObjExt
    cases e : s.h b <;> simp [isNone, e]
  refine ⟨⟨fun b hb => ?_, fun b b' hb hb' hne ho hn => ?_, I.rel.floor.to (Nat.le_refl _) (fun _ _ _ => rfl) fun b hb ho => .inl ⟨b, hb, ho, by
    rw [same b (by cases e : s.h b <;> simp_all [isOwn, isNone])]⟩⟩, ⟨I.foot.size, I.foot.keep, fun b hb => ?_, I.foot.le, I.foot.ext.trans ex, I.foot.same⟩, I.fr.ext ex, I.lole⟩
  · cases hn : isNone (s.h b) with
    | true =>
      unfold ObjOk
      cases e : s.h b <;> simp_all [isNone]
    | false => exact ObjOk.ext' hb ex rfl (same b hn) (fun m _ hm => ⟨rfl, same m (by cases e : s.h m <;> simp_all [isMap, isNone])⟩) (I.rel.objs b hb)
  · have h1 : isNone (s.h b) = false := by cases e : s.h b <;> simp_all [isOwn, isNone]
    simp only [same b h1, same b' hn]
    exact I.rel.inj b b' hb hb' hne ho hn
  · cases hn : isNone (s.h b) with
    | true => right; simpa using hx
    | false =>
      simp only [cond_false]
      exact I.foot.new b hb

/-- What is made, and not yet spoken of. -/
structure Rsv (Fb : Nat) (E : Env) (ops : Array Oper) (W0 : World) (nb : Nat) (β : Be) (a : Act) (w : World) (c j : Nat) : Prop where
  op : ∃ o t ti d, ops[c]? = some o ∧ o.op = .alloc t ∧ o.dst = some d ∧ o.guard = none ∧ E.T t = some ti ∧
    (d < E.N → a.tmps.getD d undef = .pointer (some ⟨j, 0, none⟩)) ∧ w.heap[j]? = some (.cells ⟨ti.zero⟩ t (0, 0))
  new : W0.heap.size ≤ j
  fb : Fb ≤ j
  off : ∀ b, b < nb → (β b).blk ≠ j

theorem heap_lt {w : World} {j : Nat} {o : Obj} (h : w.heap[j]? = some o) : j < w.heap.size := by
  rcases Nat.lt_or_ge j w.heap.size with h1 | h1
  · exact h1
  · rw [Array.getElem?_eq_none h1] at h; cases h

theorem Rsv.step {ops : Array Oper} {nb nb' lo c j : Nat} {β β' : Be} {H H' : Hp} {a a' : Act} {w w' : World} (r : Rsv Fb E ops W0 nb β a w c j) (F : Foot w nb β H lo β' H' nb' w')
    (ha : ∀ o d, ops[c]? = some o → o.dst = some d → a'.tmps.getD d undef = a.tmps.getD d undef) : Rsv Fb E ops W0 nb' β' a' w' c j := by
  obtain ⟨⟨o, t, ti, d, h1, h2, h3, h4, h5, h6, h7⟩, hn, hfb, ho⟩ := r
  have hj := heap_lt h7
  refine ⟨⟨o, t, ti, d, h1, h2, h3, h4, h5, fun hd => by rw [ha o d h1 h3]; exact h6 hd, ?_⟩, hn, hfb, fun b hb => ?_⟩
  · rw [F.keep j hj fun b _ hb => ho b hb]; exact h7
  · rcases F.new b hb with ⟨g1, g2⟩ | g1
    · rw [g2]; exact ho b g1
    · omega

/-- An operation; what it leaves of what was before it. -/
theorem aop_both {o : Oper} {s : St} {K : St → Prop} {β : Be} {a : Act} {w : World} {next : Act → World → Prop} {Q : Exit → Act → World → Prop} (hE : EnvOk P E) (I : Inv Fb E.N l0 W0 nb0 β0 H0 s β a w) (h : aop E o s K)
    (hn : ∀ s' β' a' w', K s' → Inv Fb E.N l0 W0 nb0 β0 H0 s' β' a' w' → Foot w s.nb β s.h s'.lo β' s'.h s'.nb w' → (∀ d, o.dst ≠ some d → a'.tmps.getD d undef = a.tmps.getD d undef) → (Nat.ble (opCls E.isK o) 3 = true → Keeps w w') → (∀ x, wAdr o = some x → OnlyAt (a.eval x) w w') → next a' w') : o.wp P a w next Q := by
  have I1 : Inv Fb E.N s.lo w s.nb β s.h s β a w := ⟨I.rel, (Foot.refl w s.nb β s.h).lo_mono I.le, I.fr, Nat.le_refl _⟩
  refine Oper.wp_mono (K := fun a' w' => (∀ d, o.dst ≠ some d → a'.tmps.getD d undef = a.tmps.getD d undef) ∧ ∃ s' β', K s' ∧ Inv Fb E.N s.lo w s.nb β s.h s' β' a' w' ∧ (Nat.ble (opCls E.isK o) 3 = true → Keeps w w') ∧ (∀ x, wAdr o = some x → OnlyAt (a.eval x) w w')) ?_ (wp_put (aop_out hE I1 h fun s' β' a' w' h1 h2 h3 h4 => ⟨s', β', h1, h2, h3, h4⟩))
  rintro a' w' ⟨h1, s', β', h2, I2, h3, h4⟩
  have F := I.foot.trans I2.foot
  rw [show Nat.min s.lo s'.lo = s'.lo from Nat.min_eq_right I2.lole] at F
  exact hn s' β' a' w' h2 ⟨I2.rel, F, I2.fr, Nat.le_trans I2.lole I.lole⟩ I2.foot h1 h3 h4

theorem free_of {isK : Nat → Bool} {o : Oper} (hc : opCls isK o = 0) : freeOp o.op = true := by
  unfold opCls at hc
  cases eo : o.op <;> simp only [eo] at hc
  all_goals first | rfl | (exfalso; revert hc; simp; done) | skip
  case call c =>
    obtain ⟨cal, args, ats⟩ := c
    cases cal with
    | builtin b => cases b <;> simp at hc <;> rfl
    | invoke => rfl
    | value x => rfl

/-- A still operation, or one that is passed over: what it yields. -/
theorem look_step {o : Oper} {s1 : St} {K : St → Prop} {β : Be} {a : Act} {w : World} (hE : EnvOk P E) (I1 : Inv Fb E.N l0 W0 nb0 β0 H0 s1 β a w) (h : aopR E o s1 K) :
    ∃ v s', K s' ∧ Inv Fb E.N l0 W0 nb0 β0 H0 s' β (a.put o.dst v) w ∧ s'.nb = s1.nb ∧ s'.h = s1.h ∧ ∀ w', (Keeps w w' ∨ freeOp o.op = true) → (execOp a.eval o).run P w' = .ok (.value v) w' := by
  unfold aopR at h
  cases he : ro E.T s1.fr s1.h o.op (fun v => putK E s1 o.dst v K) with
  | some X =>
    rw [he] at h
    obtain ⟨v, v', s', h1, h2, h3, h4, h5, h6⟩ := ro_step hE I1 he h
    exact ⟨v', s', h1, h3, h5, h4, h6⟩
  | none =>
    rw [he] at h
    clear he
    simp only at h
    cases eo : o.op <;> simp only [eo] at h
    case pick c x y =>
      obtain ⟨v', s', h1, h2, h3, h4, h5⟩ := pick_step (P := P) I1 eo h
      exact ⟨v', s', h1, h2, h4, h3, fun w' _ => h5 w'⟩

/-- A load: what it yields hangs on one block. -/
theorem load_step {o : Oper} {s : St} {K : St → Prop} {β : Be} {a : Act} {w : World} {t p : Nat} (hE : EnvOk P E) (I : Inv Fb E.N l0 W0 nb0 β0 H0 s β a w) (eo : o.op = .load t (.tmp p)) (h : aopR E o s K) :
    ∃ v s' b o' ver, K s' ∧ Inv Fb E.N l0 W0 nb0 β0 H0 s' β (a.put o.dst v) w ∧ s'.nb = s.nb ∧ s'.h = s.h ∧ s.fr p = .pointer (some ⟨b, o', some ver⟩) ∧ b < s.nb ∧ isNone (s.h b) = false ∧ (w.heap[(β b).blk]?).isSome = true ∧
      ∀ w', w'.heap[(β b).blk]? = w.heap[(β b).blk]? → (execOp a.eval o).run P w' = .ok (.value v) w' := by
  unfold aopR at h
  rw [eo] at h
  have h : force (s.fr p) (fun q => aload E.T t q s.h fun v => putK E s o.dst v K) := h
  have h1 := force_out h
  obtain ⟨v, v', k1, k2, b', o', ver, X, off, e1, e2, e3, e4, e5, ⟨own, fl, g, e6⟩, k3⟩ := load_at hE.types I.rel (I.fr.rel p) h1
  subst e3
  obtain ⟨s', g1, g2, g3, g4⟩ := putK_out I k2 k1
  refine ⟨v', s', b', o', ver, g1, g2, g4, g3, e1, e4, by rw [e6]; rfl, by simp [e5], fun w' hw => ?_⟩
  have := k3 w' hw
  rw [Array.getD_eq_getD_getElem?] at this
  simp [execOp, eo, Act.eval, this]

/-- Where the walk stands: the temporaries of what is made later are masked. -/
def atC (E : Env) (ops : Array Oper) (cf : List (Nat × List Nat)) (l : List (Nat × List Nat)) (s : St) (K : St → Prop) : Prop :=
  match l with
  | [] => K s
  | (c, m) :: rest => (∀ d ∈ m, s.fr d = unk) ∧ match ops[c]? with
    | some o => guardOf ops s o (fun s => confC cf c s o ((match opCls E.isK o with | 0 => aopR | 1 => aopR | _ => aop) E o s fun s' => aopsC E ops cf rest s' K)) (fun s => putK E s o.dst undef fun s => aopsC E ops cf rest s K)
    | none => False

theorem atC_out {ops : Array Oper} {cf : List (Nat × List Nat)} {l : List (Nat × List Nat)} {s : St} {K : St → Prop} {β : Be} {a : Act} {w : World} (I : Inv Fb E.N l0 W0 nb0 β0 H0 s β a w) (h : aopsC E ops cf l s K) :
    ∃ s', atC E ops cf l s' K ∧ Inv Fb E.N l0 W0 nb0 β0 H0 s' β a w ∧ s'.nb = s.nb ∧ s'.h = s.h := by
  cases l with
  | nil => exact ⟨s, h, I, rfl, rfl⟩
  | cons x rest =>
    obtain ⟨c, m⟩ := x
    unfold aopsC at h
    have hm : ∃ s', s'.nb = s.nb ∧ s'.h = s.h ∧ (match ops[c]? with
    | some o => guardOf ops s' o (fun s => confC cf c s o ((match opCls E.isK o with | 0 => aopR | 1 => aopR | _ => aop) E o s fun s' => aopsC E ops cf rest s' K)) (fun s => putK E s o.dst undef fun s => aopsC E ops cf rest s K)
    | none => False) ∧ Inv Fb E.N l0 W0 nb0 β0 H0 s' β a w ∧ ∀ d ∈ m, s'.fr d = unk := by
      cases m with
      | nil => exact ⟨s, rfl, rfl, h, I, fun d hd => by cases hd⟩
      | cons d m =>
        obtain ⟨s', h1, I1, h2⟩ := mask_out (l := d :: m) (K := fun s' => s'.nb = s.nb ∧ s'.h = s.h ∧ (match ops[c]? with
    | some o => guardOf ops s' o (fun s => confC cf c s o ((match opCls E.isK o with | 0 => aopR | 1 => aopR | _ => aop) E o s fun s' => aopsC E ops cf rest s' K)) (fun s => putK E s o.dst undef fun s => aopsC E ops cf rest s K)
    | none => False)) I (by
          obtain ⟨fr, H, nb, lo⟩ := s
          exact ⟨rfl, rfl, h⟩)
        exact ⟨s', h1.1, h1.2.1, h1.2.2, I1, h2⟩
    obtain ⟨s', e1, e2, h1, I1, h2⟩ := hm
    exact ⟨s', ⟨h2, h1⟩, I1, e1, e2⟩

theorem laterOf_mem {ops : Array Oper} : ∀ {l : List Nat} {c d : Nat} {o : Oper}, c ∈ l → ops[c]? = some o → opCls E.isK o = 2 → o.dst = some d → d ∈ laterOf E.isK ops l
  | [], _, _, _, hc, _, _, _ => by cases hc
  | x :: l, c, d, o, hc, ho, hk, hd => by
    unfold laterOf
    rcases List.mem_cons.1 hc with rfl | hc
    · simp [ho, hk, hd]
    · have ih := laterOf_mem hc ho hk hd
      cases ops[x]? with
      | none => exact ih
      | some y =>
        simp only
        split
        · split
          · exact List.mem_cons_of_mem _ ih
          · exact ih
        · exact ih

theorem cls2_out {o : Oper} (h : opCls E.isK o = 2) : ∃ t d, o.op = .alloc t ∧ o.guard = none ∧ o.dst = some d := by
  unfold opCls at h
  cases eo : o.op <;> simp only [eo] at h
  all_goals first | (exfalso; revert h; simp; done) | skip
  case convert s d x =>
    exfalso
    revert h
    cases E.isK (1000000 + s) <;> cases E.isK (1000000 + d) <;> simp
  case alloc t =>
    cases hg : o.guard <;> cases hd : o.dst <;> simp [hg, hd] at h
    exact ⟨t, _, rfl, rfl, rfl⟩
  case call c =>
    exfalso
    obtain ⟨cal, args, ats⟩ := c
    cases cal with
    | builtin b => cases b <;> simp at h
    | invoke => simp at h
    | value x => cases x <;> simp at h <;> (rename_i f; cases hk : E.isK f <;> simp [hk] at h)

def unl (listed : Array Bool) : List Nat → Nat
  | [] => 0
  | c :: l => bif listed.getD c true then unl listed l else unl listed l + 1

theorem unl_set_le {listed : Array Bool} {i : Nat} : ∀ (l : List Nat), i ∉ l → unl (listed.setIfInBounds i true) l = unl listed l
  | [], _ => rfl
  | c :: l, h => by
    have h1 : i ≠ c := fun e => h (by rw [e]; exact List.mem_cons_self ..)
    unfold unl
    rw [getD_set_ne true h1, unl_set_le l (fun hm => h (List.mem_cons_of_mem _ hm))]

theorem listed_lt {listed : Array Bool} {i : Nat} (hu : listed.getD i true = false) : i < listed.size := by
  rcases Nat.lt_or_ge i listed.size with h | h
  · exact h
  · simp [Array.getElem?_eq_none h] at hu

theorem listed_set {listed : Array Bool} {i : Nat} (hu : i < listed.size) (d : Bool) : (listed.setIfInBounds i true).getD i d = true := by
  simp [hu]

theorem unl_set {listed : Array Bool} {i : Nat} (hu : listed.getD i true = false) : ∀ (l : List Nat), l.Nodup → i ∈ l → unl listed l = unl (listed.setIfInBounds i true) l + 1
  | [], _, h => by cases h
  | c :: l, hn, h => by
    have hn1 := List.nodup_cons.1 hn
    unfold unl
    by_cases e : c = i
    · subst e
      rw [unl_set_le l hn1.1, hu, listed_set (listed_lt hu)]; rfl
    · have hm : i ∈ l := by
        rcases List.mem_cons.1 h with h | h
        · exact absurd h.symm e
        · exact h
      rw [getD_set_ne true (Ne.symm e), unl_set hu l hn1.2 hm]
      cases listed.getD c true <;> rfl

theorem alloc_run {o : Oper} {a : Act} {w : World} {t : TypeId} {ti : TI} (hT : TOk P E.T) (eo : o.op = .alloc t) (hti : E.T t = some ti) :
    (execOp a.eval o).run P w = .ok (.value (.pointer (some ⟨w.heap.size, 0, none⟩))) (w.alloc (.cells ⟨ti.zero⟩ t)) := by
  obtain ⟨hu, i, hi, hs, hby, ⟨z, hz, hzc⟩, hlen, hflat, _⟩ := hT _ _ hti
  simp [execOp, eo, Instr.alloc, zeroValue, run_ti hi, hz, newVar, newRow, hzc]

/-- What is made is spoken of. -/
theorem adopt {s : St} {d t : Nat} {ti : TI} {β : Be} {a : Act} {w : World} {j : Nat} {K : St → Prop} (hT : TOk P E.T) (hti : E.T t = some ti) (I : Inv Fb E.N l0 W0 nb0 β0 H0 s β a w) (hj : w.heap[j]? = some (.cells ⟨ti.zero⟩ t (0, 0)))
    (hp : d < E.N → a.tmps.getD d undef = .pointer (some ⟨j, 0, none⟩)) (hnew : W0.heap.size ≤ j) (hfb : Fb ≤ j) (hoff : ∀ b, b < s.nb → (β b).blk ≠ j) (h : anew E s (some d) true ti.size (.fn (listFn ti.zero)) K) :
    ∃ s', K s' ∧ Inv Fb E.N l0 W0 nb0 β0 H0 s' (upd β s.nb ⟨j, 0, ti.zero.length⟩) a w ∧ s'.nb = s.nb + 1 := by
  obtain ⟨fr, H, nb, lo⟩ := s
  obtain ⟨hu, i, hi, hs, hby, ⟨z, hz, hzc⟩, hlen, hflat, _⟩ := hT _ _ hti
  obtain ⟨hd, h⟩ := chk_out h
  have hd : d < E.N := by simpa using hd
  have ex := ext_alloc (β := β) (H := H) (nb := nb) ⟨j, 0, ti.zero.length⟩ (.cells true true ti.size (.fn (listFn ti.zero)))
  refine ⟨_, Step.out h, ⟨⟨fun b hb => ?_, fun b b' hb hb' hne ho hn => ?_, I.rel.floor.le, fun b hb ho => ?_, I.rel.floor.ok⟩, ⟨I.foot.size, I.foot.keep, fun b hb => ?_, I.foot.le, I.foot.ext.trans ex, I.foot.same⟩, ⟨I.fr.size, fun k => ?_, I.fr.defers⟩, I.lole⟩, rfl⟩
  · rcases Nat.lt_or_ge b nb with h1 | h1
    · have hne : b ≠ nb := Nat.ne_of_lt h1
      exact ObjOk.ext' h1 ex (upd_ne _ _ hne) (upd_ne _ _ hne) (fun m hm _ => ⟨upd_ne _ _ (Nat.ne_of_lt hm), upd_ne _ _ (Nat.ne_of_lt hm)⟩) (I.rel.objs b h1)
    · have hb : b < nb + 1 := hb
      obtain rfl : b = nb := by omega
      unfold ObjOk
      simp only [upd_same]
      refine ⟨⟨ti.zero⟩, t, (0, 0), hj, rfl, by simp [hlen], fun o ho => ⟨_, ?_, flat0_refl (getD_all hflat (by omega))⟩, fun _ => ⟨by trivial, fun o _ => by simp⟩, fun _ o ho => getD_all hflat (by omega), trivial⟩
      have : o < ti.zero.length := by omega
      simp [Cel.at, listFn, List.getD_eq_getElem?_getD, this]
  · have hb : b < nb + 1 := hb
    have hb' : b' < nb + 1 := hb'
    have ho : isOwn (upd H nb (.cells true true ti.size (.fn (listFn ti.zero))) b) = true := ho
    have hn : isNone (upd H nb (.cells true true ti.size (.fn (listFn ti.zero))) b') = false := hn
    rcases Nat.lt_or_ge b nb with h1 | h1
    · rw [upd_ne _ _ (Nat.ne_of_lt h1)]
      rw [upd_ne _ _ (Nat.ne_of_lt h1)] at ho
      rcases Nat.lt_or_ge b' nb with h2 | h2
      · rw [upd_ne _ _ (Nat.ne_of_lt h2)]
        rw [upd_ne _ _ (Nat.ne_of_lt h2)] at hn
        exact I.rel.inj b b' h1 h2 hne ho hn
      · obtain rfl : b' = nb := by omega
        rw [upd_same]; exact hoff b h1
    · obtain rfl : b = nb := by omega
      rw [upd_same, upd_ne _ _ (Ne.symm hne)]
      exact (hoff b' (Nat.lt_of_le_of_ne (Nat.le_of_lt_succ hb') (Ne.symm hne))).symm
  · have hb : b < nb + 1 := hb
    have ho : isOwn (upd H nb (.cells true true ti.size (.fn (listFn ti.zero))) b) = true := ho
    rcases Nat.lt_or_ge b nb with h1 | h1
    · rw [upd_ne _ _ (Nat.ne_of_lt h1)]
      rw [upd_ne _ _ (Nat.ne_of_lt h1)] at ho
      exact I.rel.floor.own b h1 ho
    · obtain rfl : b = nb := by omega
      rw [upd_same]; exact hfb
  · have hb : b < nb + 1 := hb
    rcases Nat.lt_or_ge b nb with h1 | h1
    · rw [upd_ne _ _ (Nat.ne_of_lt h1)]; exact I.foot.new b h1
    · obtain rfl : b = nb := by omega
      rw [upd_same]; exact .inr hnew
  · show RV _ _ _ (upd fr d (.pointer (some ⟨nb, 0, some ti.size⟩)) k) _
    by_cases e : k = d
    · subst e
      rw [upd_same, hp hd]
      have ha : AddrOk (upd β nb ⟨j, 0, ti.zero.length⟩) (upd H nb (.cells true true ti.size (.fn (listFn ti.zero)))) (nb + 1) ⟨nb, 0, some ti.size⟩ ⟨j, 0, none⟩ := by
        refine ⟨Nat.lt_succ_self _, ?_⟩
        rw [upd_same]
        exact ⟨Nat.le_refl _, fun _ => by rw [upd_same]⟩
      exact .ptr ha
    · rw [upd_ne _ _ e]; exact (I.fr.rel k).ext ex

theorem draw_dst {ops : Array Oper} {cf : List (Nat × List Nat)} : ∀ {l : List Nat}, drawGo E.isK ops cf l = true → ∀ {i k : Nat} {x y : Oper}, i ∈ l → k ∈ l → i ≠ k → ops[i]? = some x → ops[k]? = some y → opCls E.isK x = 2 → opCls E.isK y = 2 → x.dst = y.dst → False
  | [], _, _, _, _, _, h, _, _, _, _, _, _, _ => by cases h
  | c :: l, hg, i, k, x, y, hi, hk, hne, hx, hy, cx, cy, hd => by
    unfold drawGo at hg
    have main : ∀ {j : Nat} {u v : Oper}, j ∈ l → ops[c]? = some u → ops[j]? = some v → opCls E.isK u = 2 → opCls E.isK v = 2 → u.dst = v.dst → False := by
      intro j u v hj hu hv cu cv hd
      rw [hu] at hg
      simp only [Bool.and_eq_true] at hg
      have h1 := List.all_eq_true.1 hg.1.1.2 j hj
      rw [hv] at h1
      simp only [cv, Bool.and_eq_true, Bool.or_eq_true] at h1
      rcases h1.1 with h2 | h2
      · simp at h2
      · obtain ⟨t, d, _, _, q⟩ := cls2_out cv
        exact (Oper.apart_spec h2).2.1 d q (by rw [hd, q])
    have hg' : drawGo E.isK ops cf l = true := by
      cases ho : ops[c]? with
      | none => rw [ho] at hg; cases hg
      | some o => rw [ho] at hg; simp only [Bool.and_eq_true] at hg; exact hg.2
    rcases List.mem_cons.1 hi with hi2 | hi2
    · rcases List.mem_cons.1 hk with hk2 | hk2
      · exact hne (hi2.trans hk2.symm)
      · subst hi2; exact main hk2 hx hy cx cy hd
    · rcases List.mem_cons.1 hk with hk2 | hk2
      · subst hk2; exact main hi2 hy hx cy cx hd.symm
      · exact draw_dst hg' hi2 hk2 hne hx hy cx cy hd

/-- A value that is said to name another block names another block. -/
theorem otherK_out {N : Nat} {s : St} {β : Be} {a : Act} {w : World} {b x : Nat} {X : Prop} (I : Inv Fb N l0 W0 nb0 β0 H0 s β a w) (hb : b < s.nb) (hn : isNone (s.h b) = false) (h : otherK s.h b (s.fr x) X) : blkNe (a.tmps.getD x undef) (β b).blk ∧ X := by
  have hr := I.fr.rel x
  unfold otherK at h
  generalize s.fr x = v at h hr
  generalize a.tmps.getD x undef = v' at hr ⊢
  split at h
  · rename_i b' o' ver len es
    cases hne : Nat.beq b b' <;> rw [hne] at h <;> simp only at h
    cases e : s.h b' <;> simp only [e] at h
    rename_i own fl n g
    cases own <;> simp only at h
    obtain ⟨h1, h2⟩ := chk_out h
    refine ⟨?_, h2⟩
    cases hr with
    | slz hz => exact ⟨fun a n c he => (by cases he; exact .inl rfl), fun a he => (by cases he)⟩
    | @sl _ a' _ _ cap ha hr hl2 =>
      have ha2 := ha.2
      simp only [e] at ha2
      have := ha2.2 (Nat.eq_of_beq_eq_true h1)
      subst this
      refine ⟨fun a n c he => ?_, fun a he => (by cases he)⟩
      simp only [Value.slice.injEq, Option.some.injEq] at he
      obtain ⟨rfl, _, _⟩ := he
      exact .inr (I.rel.inj b' b ha.1 hb (fun q => by subst q; simp at hne) (by rw [e]; rfl) hn)
  · cases hr
    exact ⟨⟨fun a n c he => (by cases he), fun a he => (by cases he)⟩, h⟩
  · rename_i b' o' ver
    cases hne : Nat.beq b b' <;> rw [hne] at h <;> simp only at h
    cases e : s.h b' <;> simp only [e] at h
    rename_i own fl n g
    cases own <;> simp only at h
    obtain ⟨h1, h2⟩ := chk_out h
    refine ⟨?_, h2⟩
    cases hr with
    | @ptr _ a' ha =>
      have ha2 := ha.2
      simp only [e] at ha2
      have := ha2.2 (Nat.eq_of_beq_eq_true h1)
      subst this
      refine ⟨fun a n c he => (by cases he), fun a he => ?_⟩
      simp only [Value.pointer.injEq, Option.some.injEq] at he
      subst he
      exact I.rel.inj b' b ha.1 hb (fun q => by subst q; simp at hne) (by rw [e]; rfl) hn
  · exact h.elim

theorem confK_out {N : Nat} {s : St} {β : Be} {a : Act} {w : World} {b : Nat} {X : Prop} (I : Inv Fb N l0 W0 nb0 β0 H0 s β a w) (hb : b < s.nb) (hn : isNone (s.h b) = false) : ∀ {xs : List Nat}, confK s.fr s.h b xs X → (∀ x ∈ xs, blkNe (a.tmps.getD x undef) (β b).blk) ∧ X
  | [], h => ⟨fun x hx => (by cases hx), h⟩
  | x :: xs, h => by
    obtain ⟨h1, h2⟩ := otherK_out I hb hn h
    obtain ⟨h3, h4⟩ := confK_out I hb hn h2
    exact ⟨fun y hy => by
      rcases List.mem_cons.1 hy with rfl | hy
      · exact h1
      · exact h3 y hy, h4⟩

theorem confC_none {isK : Nat → Bool} {cf : List (Nat × List Nat)} {c : Nat} {o : Oper} (hcl : confL cf c o = true) (hk : Nat.ble (opCls isK o) 1 = false) (s : St) (X : Prop) : confC cf c s o X = X := by
  unfold confC
  unfold confL at hcl
  cases ex : lookX cf c with
  | none => rfl
  | some xs =>
    exfalso
    rw [ex] at hcl
    simp only [Bool.and_eq_true] at hcl
    unfold opCls at hk
    cases eo : o.op <;> rw [eo] at hk hcl <;> simp at hk hcl

/-- What an operation that looks yields, and what that hangs on. -/
theorem look_yields {ops : Array Oper} {cf : List (Nat × List Nat)} {c : Nat} {o : Oper} {s : St} {K : St → Prop} {β : Be} {a : Act} {w : World} (hE : EnvOk P E) (I : Inv Fb E.N l0 W0 nb0 β0 H0 s β a w) (hcl : confL cf c o = true)
    (h : guardOf ops s o (fun s => confC cf c s o (aopR E o s K)) (fun s => putK E s o.dst undef K)) :
    ∃ v s', K s' ∧ Inv Fb E.N l0 W0 nb0 β0 H0 s' β (a.put o.dst v) w ∧ s'.nb = s.nb ∧ s'.h = s.h ∧ ∃ (st : Bool) (X : Option Nat) (xs : List Nat), YieldsIf P ops (Holds st X w) o v a ∧ (st = true → X = none) ∧
        (∀ Y, X = some Y → (w.heap[Y]?).isSome = true ∧ ∀ x ∈ xs, blkNe (a.tmps.getD x undef) Y) ∧ (∀ x ∈ xs, o.dst ≠ some x) ∧ (Nat.beq (opCls E.isK o) 0 = true → st = true) ∧
        (∀ oj, confB cf c o oj = true → st = true ∨ (X.isSome = true ∧ ∃ x, wAdr oj = some (.tmp x) ∧ x ∈ xs)) ∧ ∀ oj, confW cf c oj = true → ∀ x ∈ xs, oj.dst ≠ some x := by
  obtain ⟨s1, I1, e1, e2, h⟩ := guard_out I h
  rcases h with ⟨hw, h⟩ | ⟨hw, h⟩
  · unfold confC at h
    cases ex : lookX cf c with
    | none =>
      rw [ex] at h
      obtain ⟨v, s', k1, k2, k3, k4, k5⟩ := look_step hE I1 h
      refine ⟨v, s', k1, k2, k3.trans e2, k4.trans e1, Nat.beq (opCls E.isK o) 0, none, [], .inl ⟨hw, fun w' hk => ?_⟩, fun _ => rfl, fun _ h => (by cases h), fun x hx => (by cases hx), id, fun oj h => (by simp [confB, ex] at h), fun _ _ x hx => (by cases hx)⟩
      rcases hk with hk | hk
      · exact k5 w' (.inr (free_of (Nat.eq_of_beq_eq_true hk)))
      · exact k5 w' (.inl hk)
    | some xs =>
      rw [ex] at h
      simp only at h
      simp only [confL, ex, Bool.and_eq_true] at hcl
      obtain ⟨hld, hxs⟩ := hcl
      split at h
      case h_2 => exact h.elim
      rename_i t p eo
      split at h
      case h_2 => exact h.elim
      rename_i b o' v' ep
      have hK := h
      have hfin : ∀ {b : Nat}, b < s1.nb → isNone (s1.h b) = false → confK s1.fr s1.h b xs (aopR E o s1 K) → aopR E o s1 K := fun h1 h2 h3 => (confK_out I1 h1 h2 h3).2
      have hb : b < s1.nb ∧ isNone (s1.h b) = false := by
        have hr := I1.fr.rel p
        rw [ep] at hr
        generalize a.tmps.getD p undef = q at hr
        cases hr with
        | ptr ha =>
          cases v' with
          | none =>
            refine ⟨ha.1, ?_⟩
            have := ha.2.2
            cases e : s1.h b <;> simp only [e] at this
            all_goals first | exact this.elim | rfl
          | some ver =>
            refine ⟨ha.1, ?_⟩
            have := ha.2
            cases e : s1.h b <;> simp only [e] at this
            all_goals first | exact False.elim this | rfl
      obtain ⟨hne, h⟩ := confK_out I1 hb.1 hb.2 h
      obtain ⟨v, s', b', o2, ver, g1, g2, g3, g4, g5, g6, g7, g8, g9⟩ := load_step hE I1 eo h
      rw [ep] at g5
      simp only [Value.pointer.injEq, Option.some.injEq, Addr.mk.injEq] at g5
      obtain ⟨rfl, _, _⟩ := g5
      refine ⟨v, s', g1, g2, g3.trans e2, g4.trans e1, false, some (β b).blk, xs, .inl ⟨hw, fun w' hk => ?_⟩, fun h => (by cases h), fun Y hY => ?_, fun x hx => ?_, fun h0 => ?_, fun oj h => ?_, fun oj h x hx => ?_⟩
      · rcases hk with hk | hk
        · cases hk
        · exact g9 w' hk
      · obtain rfl := Option.some.inj hY
        exact ⟨g8, hne⟩
      · have := List.all_eq_true.1 hxs x hx
        simpa using this
      · exfalso
        unfold opCls at h0
        rw [eo] at h0
        simp at h0
      · simp only [confB, ex] at h
        cases ew : wAdr oj with
        | none => rw [ew] at h; cases h
        | some y =>
          rw [ew] at h
          cases y with
          | tmp x => exact .inr ⟨rfl, x, rfl, List.contains_iff_mem.1 h⟩
          | _ => cases h
      · simp only [confW, ex] at h
        have := List.all_eq_true.1 h x hx
        simpa using this
  · obtain ⟨s', h2, I2, g1, g2⟩ := putK_out I1 RV.undef h
    exact ⟨undef, s', h2, I2, g2.trans e2, g1.trans e1, true, none, [], .inr ⟨hw, rfl⟩, fun _ => rfl, fun _ h => (by cases h), fun x hx => (by cases hx), fun _ => rfl, fun _ _ => .inl rfl, fun _ _ x hx => (by cases hx)⟩

/-- **A REGION THAT DRAWS ITS ORDER**, walked in one. -/
theorem draw_out {ops : Array Oper} {cf : List (Nat × List Nat)} {Q : Exit → Act → World → Prop} {K : St → Prop} (hE : EnvOk P E) (hsel : Region.noSelect ops = true) (hT : ∀ (i : Nat) (o : Oper) (t : TypeId), ops[i]? = some o → o.op = .alloc t → ∃ ti, E.T t = some ti)
    (hda : ∀ (i : Nat) (o : Oper), ops[i]? = some o → opCls E.isK o = 2 → o.after.all (fun e => !Region.binds .any e) = true) (hp : ∀ c a w, ¬ Q (.panic c) a w) (hQ : ∀ s β a w, K s → Inv Fb E.N l0 W0 nb0 β0 H0 s β a w → Q .normal a w) :
    ∀ (m : Nat) (l : List (Nat × List Nat)) (listed : Array Bool) (jf : Nat → Nat) (s : St) (β : Be) (a : Act) (w : World), m = l.length + unl listed (l.map (·.1)) → (l.map (·.1)).Nodup → (∀ c ∈ l.map (·.1), c < ops.size) → drawGo E.isK ops cf (l.map (·.1)) = true → masksGo E.isK ops l = true →
      listed.size = ops.size → (∀ i, i < ops.size → i ∉ l.map (·.1) → listed.getD i true = true) →
      (∀ c ∈ l.map (·.1), listed.getD c true = true → Rsv Fb E ops W0 s.nb β a w c (jf c)) → (∀ c ∈ l.map (·.1), ∀ c' ∈ l.map (·.1), listed.getD c true = true → listed.getD c' true = true → c ≠ c' → jf c ≠ jf c') →
      atC E ops cf l s K → Inv Fb E.N l0 W0 nb0 β0 H0 s β a w → wpAnyG P E.isK ops Q (unl listed (l.map (·.1))) listed a w := by
  intro m
  induction m using Nat.strongRecOn with
  | _ m ih =>
  intro l listed jf s β a w hm hnd hlt hgo hmk hsz hli hrs hinj h I
  have all_listed : ∀ i, i < ops.size → i ∉ l.map (·.1) → listed.getD i false = true := fun i hi hm => by
    have h1 := hli i hi hm
    have : i < listed.size := by omega
    simpa [this] using h1
  cases l with
  | nil =>
    have hr : Region.ready .any ops listed = [] := by
      rw [List.eq_nil_iff_forall_not_mem]
      intro i hi
      obtain ⟨h1, o, ho, _⟩ := mem_ready.1 hi
      rw [hli i (Array.getElem?_eq_some_iff.1 ho).1 (by simp)] at h1
      cases h1
    exact ⟨hr, hQ _ _ _ _ h I⟩
  | cons x rest =>
  obtain ⟨c, ms⟩ := x
  simp only [List.map_cons] at hm hnd hlt hgo hli hrs hinj all_listed ⊢
  obtain ⟨hfr, h⟩ := h
  have h0 := h
  have hc : c < ops.size := hlt c (List.mem_cons_self ..)
  have hnd1 := List.nodup_cons.1 hnd
  obtain ⟨o, ho⟩ : ∃ o, ops[c]? = some o := ⟨ops[c], Array.getElem?_eq_some_iff.2 ⟨hc, rfl⟩⟩
  rw [ho] at h
  simp only at h
  simp only [masksGo, Bool.and_eq_true, beq_iff_eq] at hmk
  obtain ⟨hms, hmk⟩ := hmk
  have hgo0 := hgo
  unfold drawGo at hgo
  rw [ho] at hgo
  simp only [Bool.and_eq_true] at hgo
  obtain ⟨⟨⟨hwait, hall⟩, hcl⟩, hgo⟩ := hgo
  have hmem : ∀ i ∈ rest.map (·.1), i ∈ c :: rest.map (·.1) := fun i hi => List.mem_cons_of_mem _ hi
  have hlt' : ∀ i ∈ rest.map (·.1), i < ops.size := fun i hi => hlt i (hmem i hi)
  have next : ∀ {K' : St → Prop} {s1 : St} {β1 : Be} {a1 : Act} {w1 : World} {listed1 : Array Bool}, l0 = l0 → listed1.size = ops.size → (∀ i, i < ops.size → i ∉ rest.map (·.1) → listed1.getD i true = true) → rest.length + unl listed1 (rest.map (·.1)) < m →
      (∀ c ∈ rest.map (·.1), listed1.getD c true = true → Rsv Fb E ops W0 s1.nb β1 a1 w1 c (jf c)) → (∀ i ∈ rest.map (·.1), listed1.getD i true = true → listed.getD i true = true) →
      aopsC E ops cf rest s1 K → Inv Fb E.N l0 W0 nb0 β0 H0 s1 β1 a1 w1 → wpAnyG P E.isK ops Q (unl listed1 (rest.map (·.1))) listed1 a1 w1 := by
    intro K' s1 β1 a1 w1 listed1 _ h1 h2 h3 h4 h5 h6 I1
    obtain ⟨s2, h7, I2, e1, e2⟩ := atC_out I1 h6
    exact ih _ h3 rest listed1 jf s2 β1 a1 w1 rfl hnd1.2 hlt' hgo hmk h1 h2 (fun i hi hl => by rw [e1]; exact h4 i hi hl) (fun i hi i' hi' hl hl' => hinj i (hmem i hi) i' (hmem i' hi') (h5 i hi hl) (h5 i' hi' hl')) h7 I2
  -- what comes beside the operation at hand
  have beside : ∀ j ∈ rest.map (·.1), ∃ oj, ops[j]? = some oj ∧ (opCls E.isK oj = 2 → oj.apart ops o = true) ∧
      (Nat.ble (opCls E.isK o) 1 = true → j ∈ downs ops [c] (rest.map (·.1)) ∨ ((o.apart ops oj = true ∧ ((Nat.beq (opCls E.isK o) 0 = true ∨ Nat.ble (opCls E.isK oj) 3 = true) ∨ confB cf c o oj = true)) ∧ confW cf c oj = true)) ∧
      (Nat.ble (opCls E.isK o) 1 = false → opCls E.isK oj = 2 ∨ ∃ e ∈ oj.after, Region.binds .any e = true ∧ (e.on = c ∨ (e.on ∈ rest.map (·.1) ∧ ∃ x, ops[e.on]? = some x ∧ opCls E.isK x ≠ 2))) := by
    intro j hj
    have h1 := List.all_eq_true.1 hall j hj
    cases hoj : ops[j]? with
    | none => rw [hoj] at h1; cases h1
    | some oj =>
      rw [hoj] at h1
      simp only [Bool.and_eq_true, Bool.or_eq_true, Bool.not_eq_true'] at h1
      obtain ⟨h1, h2⟩ := h1
      refine ⟨oj, rfl, fun hk => ?_, fun hk => ?_, fun hk => ?_⟩
      · rcases h1 with h1 | h1
        · rw [hk] at h1; cases h1
        · exact h1
      · rw [hk] at h2
        simp only [Bool.or_eq_true, Bool.and_eq_true] at h2
        rcases h2 with h2 | h2
        · exact .inl (List.contains_iff_mem.1 h2)
        · exact .inr h2
      · rw [hk] at h2
        simp only [Bool.or_eq_true] at h2
        rcases h2 with h2 | h2
        · exact .inl (Nat.eq_of_beq_eq_true h2)
        · obtain ⟨e, he, hb⟩ := Array.any_eq_true'.1 h2
          simp only [Bool.and_eq_true, Bool.or_eq_true, beq_iff_eq, List.contains_iff_mem] at hb
          refine .inr ⟨e, he, hb.1, ?_⟩
          rcases hb.2 with hb | ⟨hb, hx⟩
          · exact .inl hb
          · refine .inr ⟨hb, ?_⟩
            cases hx2 : ops[e.on]? with
            | none => rw [hx2] at hx; cases hx
            | some x =>
              rw [hx2] at hx
              refine ⟨x, rfl, fun hk => ?_⟩
              simp [hk] at hx
  have rsv_cls : ∀ i ∈ c :: rest.map (·.1), listed.getD i true = true → ∀ x, ops[i]? = some x → opCls E.isK x = 2 := by
    intro i hi hl x hx
    obtain ⟨⟨o', t, ti, d, h1, h2, h3, h4, _⟩, _⟩ := hrs i hi hl
    rw [hx] at h1
    obtain rfl := Option.some.inj h1
    simp [opCls, h2, h3, h4]
  cases hl : listed.getD c true with
  | true =>
    -- made before: it is spoken of now
    obtain ⟨⟨o', t, ti, d, h1, h2, h3, h4, h5, h6, h7⟩, hnew, hfb, hoff⟩ := hrs c (List.mem_cons_self ..) hl
    rw [ho] at h1
    obtain rfl := Option.some.inj h1
    have hk : opCls E.isK o = 2 := rsv_cls c (List.mem_cons_self ..) hl o ho
    unfold guardOf at h
    rw [h4] at h
    have hk1 : Nat.ble (opCls E.isK o) 1 = false := by rw [hk]; rfl
    simp only [confC_none hcl hk1] at h
    simp only [hk] at h
    have h : aop E o s (fun s' => aopsC E ops cf rest s' K) := h
    unfold aop at h
    have hro : ro E.T s.fr s.h o.op (fun v => putK E s o.dst v fun s' => aopsC E ops cf rest s' K) = none := by rw [h2]; rfl
    rw [hro] at h
    simp only [aalloc, h2, tyK, h5, h3] at h
    obtain ⟨s', g1, I', g2⟩ := adopt hE.types h5 I h7 h6 hnew hfb hoff h
    have e : unl listed (c :: rest.map (·.1)) = unl listed (rest.map (·.1)) := by simp [unl, hl]
    rw [e]
    refine next (K' := K) rfl hsz (fun i hi hni => ?_) (by rw [hm, e]; simp) (fun i hi hli' => ?_) (fun _ _ h => h) g1 I'
    · by_cases hic : i = c
      · rw [hic]; exact hl
      · exact hli i hi (fun hh => (List.mem_cons.1 hh).elim hic hni)
    · have r := hrs i (hmem i hi) hli'
      refine ⟨r.op, r.new, r.fb, fun b hb => ?_⟩
      rw [g2] at hb
      rcases Nat.lt_or_ge b s.nb with hb1 | hb1
      · rw [upd_ne _ _ (Nat.ne_of_lt hb1)]; exact r.off b hb1
      · obtain rfl : b = s.nb := by omega
        rw [upd_same]
        exact hinj c (List.mem_cons_self ..) i (hmem i hi) hl hli' (fun he => hnd1.1 (he ▸ hi))
  | false =>
  have hu := unl_set hl (c :: rest.map (·.1)) hnd (List.mem_cons_self ..)
  have hu2 : unl (listed.setIfInBounds c true) (c :: rest.map (·.1)) = unl (listed.setIfInBounds c true) (rest.map (·.1)) := by
    simp only [unl, listed_set (listed_lt hl), cond_true]
  have hready : c ∈ Region.ready .any ops listed := by
    refine mem_ready.2 ⟨hl, o, ho, fun e he hb => ?_⟩
    have h1 := Array.all_eq_true_iff_forall_mem.1 hwait e he
    simp only [hb, Bool.not_true, Bool.false_or, Bool.not_eq_true', Bool.and_eq_true, Nat.blt_eq] at h1
    exact all_listed e.on h1.1 fun hh => by
      have := List.contains_iff_mem.2 hh
      rw [h1.2] at this; cases this
  rw [hu, hu2]
  have hsz' : (listed.setIfInBounds c true).size = ops.size := by simpa using hsz
  have hli' : ∀ i, i < ops.size → i ∉ rest.map (·.1) → (listed.setIfInBounds c true).getD i true = true := fun i hi hni => by
    by_cases hic : c = i
    · rw [← hic]; exact listed_set (by omega) _
    · rw [getD_set_ne true hic]
      exact hli i hi fun hh => (List.mem_cons.1 hh).elim (fun h => hic h.symm) hni
  have hold : ∀ i ∈ rest.map (·.1), (listed.setIfInBounds c true).getD i true = true → listed.getD i true = true := fun i hi h1 => by
    rwa [getD_set_ne true (fun e : c = i => hnd1.1 (e ▸ hi))] at h1
  have hmm : rest.length + unl (listed.setIfInBounds c true) (rest.map (·.1)) < m := by
    rw [hm, hu, hu2]; simp only [List.length_cons]; omega
  have far : ∀ i ∈ rest.map (·.1), listed.getD i true = true → ∀ x d, ops[i]? = some x → x.dst = some d → o.dst ≠ some d := fun i hi hl x d hx hd => by
    obtain ⟨oj, h1, h2, _⟩ := beside i hi
    rw [hx] at h1
    obtain rfl := Option.some.inj h1
    have h3 := (Oper.apart_spec (h2 (rsv_cls i (hmem i hi) hl x hx))).2.1 d hd
    exact h3
  cases hk : Nat.ble (opCls E.isK o) 1 with
  | true =>
    -- it may be taken first
    have h' : guardOf ops s o (fun s => confC cf c s o (aopR E o s fun s' => aopsC E ops cf rest s' K)) (fun s => putK E s o.dst undef fun s => aopsC E ops cf rest s K) := by
      have hk' : opCls E.isK o = 0 ∨ opCls E.isK o = 1 := by
        have := Nat.le_of_ble_eq_true hk; omega
      rcases hk' with hk' | hk' <;> simpa only [hk'] using h
    have hyl := look_yields (ops := ops) hE I hcl h'
    obtain ⟨v, s', g1, I', g2, g3, st, X, xs, hy, hstX, hXs, hxo, h0st, hcB, hcW⟩ := hyl
    have hDm : ∀ j ∈ downs ops [c] (rest.map (·.1)), j ≠ c → j ∈ rest.map (·.1) ∧ ∃ oj, ops[j]? = some oj ∧ ∃ e ∈ oj.after, Region.binds .any e = true ∧ e.on ∈ downs ops [c] (rest.map (·.1)) := fun j hj hne => by
      rcases downs_spec hj with h1 | h1
      · exact absurd (List.mem_singleton.1 h1) hne
      · exact h1
    have hDl : ∀ j ∈ downs ops [c] (rest.map (·.1)), listed.getD j false = false := by
      intro j hj
      by_cases hjc : j = c
      · rw [hjc]; exact getD_both hl
      · obtain ⟨h1, oj, hoj, e, he, hb, hd⟩ := hDm j hj hjc
        cases hlj : listed.getD j false with
        | false => rfl
        | true =>
          have hjlt : j < listed.size := by have := hlt' j h1; omega
          have hlj' : listed.getD j true = true := by simpa [hjlt] using hlj
          obtain ⟨⟨o', t, ti, d, q1, q2, q3, q4, _⟩, _⟩ := hrs j (hmem j h1) hlj'
          rw [hoj] at q1
          obtain rfl := Option.some.inj q1
          exact absurd he (by
            have := hda j oj hoj (by simp [opCls, q2, q3, q4])
            intro hm
            have h3 := Array.all_eq_true_iff_forall_mem.1 this e hm
            rw [hb] at h3; cases h3)
    refine wpAnyG_first (st := st) (X := X) (xs := xs) (D := downs ops [c] (rest.map (·.1))) (fun j hj hne => (hDm j hj hne).2) ho (Region.noSelect_spec hsel) hxo hstX (fun c a w hh => absurd hh (hp _ _ _)) _ _ _ _ hDl (fun j oj hoj hji hjl hno => ?_) hXs hready hy (next (K' := K) rfl hsz' hli' hmm (fun i hi h1 => ?_) hold g1 I')
    · have hjm : j ∈ rest.map (·.1) := by
        have hjlt := (Array.getElem?_eq_some_iff.1 hoj).1
        have : j ∈ c :: rest.map (·.1) := by
          rcases Decidable.em (j ∈ c :: rest.map (·.1)) with h | h
          · exact h
          · rw [hli j hjlt h] at hjl; cases hjl
        exact (List.mem_cons.1 this).resolve_left hji
      obtain ⟨oj', h1, _, h3, _⟩ := beside j hjm
      rw [hoj] at h1
      obtain rfl := Option.some.inj h1
      rcases h3 hk with h3 | ⟨⟨h3, h4⟩, h5⟩
      · exact absurd h3 hno
      refine ⟨h3, ?_, hcW oj h5⟩
      rcases h4 with (h4 | h4) | h4
      · exact .inl (h0st h4)
      · exact .inr (.inl (by simp only [keepsI, hoj]; exact h4))
      · rcases hcB oj h4 with q | ⟨q1, x, q2, q3⟩
        · exact .inl q
        · exact .inr (.inr ⟨q1, oj, x, hoj, q2, q3⟩)
    · have hl1 := hold i hi h1
      have r := hrs i (hmem i hi) hl1
      rw [g2]
      obtain ⟨⟨o', t, ti, d, q1, q2, q3, q4, q5, q6, q7⟩, r2, r4, r3⟩ := r
      exact ⟨⟨o', t, ti, d, q1, q2, q3, q4, q5, fun hd => by rw [put_getD (far i hi hl1 o' d q1 q3)]; exact q6 hd, q7⟩, r2, r4, r3⟩
  | false =>
  refine ⟨fun h0 => (by rw [h0] at hready; cases hready), fun i hi => ?_⟩
  obtain ⟨hil, oi, hoi, hiw⟩ := mem_ready.1 hi
  have hilt := (Array.getElem?_eq_some_iff.1 hoi).1
  have him : i ∈ c :: rest.map (·.1) := by
    rcases Decidable.em (i ∈ c :: rest.map (·.1)) with h | h
    · exact h
    · rw [hli i hilt h] at hil; cases hil
  have hcls : (i = c ∧ opCls E.isK o ≠ 2) ∨ opCls E.isK oi = 2 := by
    by_cases hic : i = c
    · subst hic
      rw [ho] at hoi
      obtain rfl := Option.some.inj hoi
      by_cases h2 : opCls E.isK o = 2
      · exact .inr h2
      · exact .inl ⟨rfl, h2⟩
    · have hir := (List.mem_cons.1 him).resolve_left hic
      obtain ⟨oj, h1, _, _, h4⟩ := beside i hir
      rw [hoi] at h1
      obtain rfl := Option.some.inj h1
      rcases h4 hk with h5 | ⟨e, he, hb, h5⟩
      · exact .inr h5
      · have h6 := hiw e he hb
        rcases h5 with h5 | ⟨h5, x, hx, h7⟩
        · rw [h5] at h6
          have := getD_both hl
          rw [this] at h6; cases h6
        · have h8 : listed.getD e.on true = true := by
            cases h9 : listed.getD e.on true with
            | true => rfl
            | false => rw [getD_both h9] at h6; cases h6
          exact absurd (rsv_cls e.on (hmem _ h5) h8 x hx) h7
  rcases hcls with ⟨rfl, hk2⟩ | hk2
  · -- the operation at hand
    rw [ho] at hoi
    obtain rfl := Option.some.inj hoi
    have h' : guardOf ops s o (fun s => aop E o s fun s' => aopsC E ops cf rest s' K) (fun s => putK E s o.dst undef fun s => aopsC E ops cf rest s K) := by
      simp only [confC_none hcl hk] at h
      generalize hkk : opCls E.isK o = kk at h hk
      match kk, hk with
      | 0, hk => cases hk
      | 1, hk => cases hk
      | n + 2, _ => exact h
    obtain ⟨s1, I1, e1, e2, h'⟩ := guard_out I h'
    have fin : ∀ {s' : St} {β' : Be} {a' : Act} {w' : World} {lo : Nat}, aopsC E ops cf rest s' K → Inv Fb E.N l0 W0 nb0 β0 H0 s' β' a' w' → Foot w s.nb β s.h lo β' s'.h s'.nb w' → (∀ d, o.dst ≠ some d → a'.tmps.getD d undef = a.tmps.getD d undef) →
        wpAnyG P E.isK ops Q (unl (listed.setIfInBounds i true) (rest.map (·.1))) (listed.setIfInBounds i true) a' w' := fun g1 I' F ha =>
      next (K' := K) rfl hsz' hli' hmm (fun j hj h1 => (hrs j (hmem j hj) (hold j hj h1)).step F fun x d hx hd => ha d (far j hj (hold j hj h1) x d hx hd)) hold g1 I'
    unfold wpOp
    simp only [ho]
    rcases h' with ⟨hw, h'⟩ | ⟨hw, h'⟩
    · rw [if_pos hw]
      refine .inl (aop_both hE I1 h' fun s' β' a' w' g1 I' F ha hkp hoa => ⟨⟨fun hh => hkp ?_, fun o' x ho' hx => ?_⟩, fin g1 I' (by rw [← e1, ← e2]; exact F) ha⟩)
      · simpa only [keepsI, ho] using hh
      · rw [ho] at ho'
        obtain rfl := Option.some.inj ho'
        exact hoa x hx
    · rw [if_neg (by simp [hw])]
      obtain ⟨s', g1, I', g2, g3⟩ := putK_out I1 RV.undef h'
      refine ⟨⟨fun _ => Keeps.refl w, fun _ _ _ _ => OnlyAt.refl _ _⟩, fin g1 I' (lo := s.nb) ?_ fun d hd => put_getD hd⟩
      rw [g2, g3, e1, e2]; exact Foot.refl _ _ _ _
  · -- a variable is made
    obtain ⟨t, d, h1, h2, h3⟩ := cls2_out hk2
    obtain ⟨ti, hti⟩ := hT i oi t hoi h1
    have hrun := alloc_run (a := a) (w := w) hE.types h1 hti
    unfold wpOp
    simp only [hoi]
    rw [if_pos (by simp [Region.wanted, h2])]
    refine .inl ?_
    unfold Oper.wp
    rw [hrun, Oper.upon_value, h3]
    refine ⟨⟨fun _ => keeps_alloc _ _, fun _ _ _ _ => OnlyAt.keeps (keeps_alloc _ _)⟩, ?_⟩
    have hfd : s.fr d = unk := hfr d (by
      have hms := hms
      subst hms
      exact laterOf_mem him hoi hk2 h3)
    have hW : W0.heap.size ≤ w.heap.size + 1 := Nat.le_succ_of_le I.foot.size
    have I1 := (I.keep (keeps_alloc w (.cells ⟨ti.zero⟩ t))).rebe (w.heap.size + 1) hW
    have I2 : Inv Fb E.N l0 W0 nb0 β0 H0 s (fun b => bif isNone (s.h b) then ⟨w.heap.size + 1, 0, 0⟩ else β b) (a.put (some d) (.pointer (some ⟨w.heap.size, 0, none⟩))) (w.alloc (.cells ⟨ti.zero⟩ t)) := by
      refine ⟨I1.rel, I1.foot, ⟨by have := I1.fr.size; simpa [Act.put] using this, fun k => ?_, I1.fr.defers⟩, I1.lole⟩
      by_cases e : k = d
      · subst e; rw [hfd]; exact .unk _
      · rw [put_getD (fun h => e (Option.some.inj h).symm)]; exact I1.fr.rel k
    have hu3 := unl_set hil (c :: rest.map (·.1)) hnd him
    have hn3 : unl (listed.setIfInBounds i true) (c :: rest.map (·.1)) = unl (listed.setIfInBounds c true) (rest.map (·.1)) := by omega
    rw [← hn3]
    refine ih _ (by rw [hm, hu3]; simp only [List.length_cons, List.map_cons]; omega) ((c, ms) :: rest) (listed.setIfInBounds i true) (upd jf i w.heap.size) s _ _ _ rfl hnd hlt (by
        simp only [List.map_cons]
        unfold drawGo
        rw [ho]
        simp only [Bool.and_eq_true]
        exact ⟨⟨⟨hwait, hall⟩, hcl⟩, hgo⟩) (by simp only [masksGo, Bool.and_eq_true, beq_iff_eq]; exact ⟨hms, hmk⟩) (by simpa using hsz) (fun k hkk hni => ?_) (fun k hkm hkl => ?_) (fun k hkm k' hkm' hkl hkl' hne => ?_) ⟨hfr, h0⟩ I2
    · by_cases e : i = k
      · rw [← e]; exact listed_set (by omega) _
      · rw [getD_set_ne true e]; exact hli k hkk hni
    · by_cases e : k = i
      · subst e
        rw [upd_same]
        refine ⟨⟨oi, t, ti, d, hoi, h1, h3, h2, hti, fun hd => ?_, alloc_last _ _⟩, I.foot.size, I.rel.floor.le, fun b hb => ?_⟩
        · have hsd : d < a.tmps.size := by rw [I.fr.size]; exact hd
          simp [Act.put, hsd]
        · cases hn : isNone (s.h b) with
          | true => simp
          | false =>
            simp only [cond_false]
            have := I.rel.lt hb hn
            omega
      · rw [upd_ne _ _ e]
        have hkl' : listed.getD k true = true := by rwa [getD_set_ne true (Ne.symm e)] at hkl
        obtain ⟨⟨o', t', ti', d', q1, q2, q3, q4, q5, q6, q7⟩, r2, r4, r3⟩ := hrs k hkm hkl'
        have hjl := heap_lt q7
        refine ⟨⟨o', t', ti', d', q1, q2, q3, q4, q5, fun hd => ?_, by rw [(keeps_alloc _ _).heap _ hjl]; exact q7⟩, r2, r4, fun b hb => ?_⟩
        · rw [put_getD]
          · exact q6 hd
          · intro he
            have he : d = d' := Option.some.inj he
            exact draw_dst hgo0 him hkm (fun e2 => e e2.symm) hoi q1 hk2 (by simp [opCls, q2, q3, q4]) (by rw [h3, q3, he])
        · cases hn : isNone (s.h b) with
          | true => simp; omega
          | false => simp only [cond_false]; exact r3 b hb
    · by_cases e : k = i
      · subst e
        rw [upd_same, upd_ne _ _ (Ne.symm hne)]
        have hk2' : listed.getD k' true = true := by rwa [getD_set_ne true hne] at hkl'
        obtain ⟨⟨_, _, _, _, _, _, _, _, _, _, q7⟩, _⟩ := hrs k' hkm' hk2'
        have := heap_lt q7; omega
      · have hk1' : listed.getD k true = true := by rwa [getD_set_ne true (Ne.symm e)] at hkl
        rw [upd_ne _ _ e]
        by_cases e' : k' = i
        · subst e'
          rw [upd_same]
          obtain ⟨⟨_, _, _, _, _, _, _, _, _, _, q7⟩, _⟩ := hrs k hkm hk1'
          have := heap_lt q7; omega
        · rw [upd_ne _ _ e']
          have hk2' : listed.getD k' true = true := by rwa [getD_set_ne true (Ne.symm e')] at hkl'
          exact hinj k hkm k' hkm' hk1' hk2' hne

/-- A region that draws its order, from its beginning. -/
theorem draw_region {ops : Array Oper} {id : Nat} {Q : Exit → Act → World → Prop} {K : St → Prop} {l cf : List (Nat × List Nat)} {s : St} {β : Be} {a : Act} {w : World} (hE : EnvOk P E) (hd : DrawOk E.T E.isK ops l cf) (h : aopsC E ops cf l s K)
    (I : Inv Fb E.N l0 W0 nb0 β0 H0 s β a w) (hQ : ∀ s β a w, K s → Inv Fb E.N l0 W0 nb0 β0 H0 s β a w → Q .normal a w) : (Code.region id ops true).wp P Q a w := by
  unfold DrawOk drawOkB at hd
  simp only [Bool.and_eq_true, decide_eq_true_eq, List.all_eq_true, List.mem_range] at hd
  obtain ⟨⟨⟨⟨⟨⟨⟨⟨h1, h9⟩, h2⟩, h3⟩, h8⟩, h4⟩, h5⟩, h6⟩, h7⟩ := hd
  have h4 := Nat.eq_of_beq_eq_true h4
  have mem : ∀ i, i < ops.size → i ∈ l.map (·.1) := fun i hi => by simpa using h5 i hi
  have hlt : ∀ c ∈ l.map (·.1), c < ops.size := fun c hc => by simpa using h8 c hc
  have hu : unl (Array.replicate ops.size false) (l.map (·.1)) = ops.size := by
    have key : ∀ m : List Nat, (∀ c ∈ m, c < ops.size) → unl (Array.replicate ops.size false) m = m.length := by
      intro m
      induction m with
      | nil => intro _; rfl
      | cons c m ih =>
        intro hm
        have hc := hm c (List.mem_cons_self ..)
        unfold unl
        rw [ih fun x hx => hm x (List.mem_cons_of_mem _ hx)]
        simp [hc]
    rw [key _ hlt]; simpa using h4
  have nol : ∀ c ∈ l.map (·.1), (Array.replicate ops.size false).getD c true = true → False := fun c hc hh => by
    have := hlt c hc
    simp [this] at hh
  have I1 := I.keep (keeps_drew w)
  obtain ⟨s1, hs1, I2, e1, e2⟩ := atC_out I1 h
  have main := draw_out (Q := fun e a w => e = .normal ∧ Q .normal a w) (K := K) hE h1 (fun i o t ho he => by
      have := h2 o (Array.mem_toList_iff.2 (Array.mem_of_getElem? ho))
      simp only [he] at this
      cases e : E.T t with
      | none => rw [e] at this; cases this
      | some ti => exact ⟨ti, rfl⟩) (fun i o ho hk => by
      have := h9 o (Array.mem_toList_iff.2 (Array.mem_of_getElem? ho))
      rw [hk] at this
      simpa using this) (fun _ _ _ hh => by cases hh.1) (fun s β a w hk I => ⟨rfl, hQ s β a w hk I⟩)
    _ l (Array.replicate ops.size false) (fun x => x) s1 β a { w with drawn := w.drawn + 1 } rfl h3 hlt h6 h7 (by simp) (fun i hi hni => absurd (mem i hi) hni) (fun c hc hh => (nol c hc hh).elim) (fun c hc _ _ hh => (nol c hc hh).elim) hs1 I2
  rw [hu] at main
  refine (Code.wp_mono (Q := fun e a w => e = .normal ∧ Q .normal a w) ?_ (wp_region_any hE.mixed (wpAny_of_G _ _ _ _ main)))
  rintro e a w ⟨rfl, h⟩
  exact h

end Go.Eng
