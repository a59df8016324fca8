/- A part of the interpreter of Go code, and of the proof that it says what Go does; no condition. -/
import Derived.Test.YtnnfbgonjonflaaEng21
import Derived.LoopN
set_option linter.unusedSimpArgs false
set_option linter.unusedVariables false
namespace Go.Eng
variable {Fb : Nat}
variable {P : Program} {E : Env} {l0 : Nat} {W0 : World} {nb0 : Nat} {β0 : Be} {H0 : Hp}

theorem aops_out (hE : EnvOk P E) {ops : Array Oper} {Q : Exit → Act → World → Prop} {K : St → Prop} (hQ : ∀ s β a w, K s → Inv Fb E.N l0 W0 nb0 β0 H0 s β a w → Q .normal a w) :
    ∀ (l : List Oper) (s : St) (β : Be) (a : Act) (w : World), aops E ops l s K → Inv Fb E.N l0 W0 nb0 β0 H0 s β a w → wpList P ops Q l a w
  | [], s, β, a, w, h, I => hQ _ _ _ _ h I
  | o :: rest, s, β, a, w, h, I => by
    obtain ⟨s', I', _, _, h⟩ := guard_out I h
    unfold wpList
    rcases h with ⟨hw, h⟩ | ⟨hw, h⟩
    · rw [if_pos hw]
      exact .inl (aop_out hE I' h fun s2 β2 a2 w2 h2 I2 _ _ => aops_out hE hQ rest s2 β2 a2 w2 h2 I2)
    · rw [if_neg (by simp [hw])]
      obtain ⟨s2, h2, I2, _, _⟩ := putK_out I' RV.undef h
      exact aops_out hE hQ rest s2 β _ w h2 I2

theorem quiet_step {o : Oper} {s : St} {K : St → Prop} {β : Be} {a : Act} {w : World} {next : Act → Prop} (hE : EnvOk P E) (I : Inv Fb E.N l0 W0 nb0 β0 H0 s β a w) (h : aopQ E o s K)
    (hn : ∀ s' a', K s' → Inv Fb E.N l0 W0 nb0 β0 H0 s' β a' w → s'.h = s.h → s'.nb = s.nb → next a') : o.quiet P a (Keeps w) next := by
  unfold aopQ at h
  cases he : ro E.T s.fr s.h o.op (fun v => putK E s o.dst v K) with
  | some X =>
    rw [he] at h
    obtain ⟨v, v', s', h1, h2, h3, h4, h5, h6⟩ := ro_step hE I he h
    refine ⟨v', fun w' k => ?_, hn _ _ h1 h3 h4 h5⟩
    unfold Oper.quietAt
    rw [h6 w' (.inl k)]
    exact ⟨rfl, rfl⟩
  | none =>
    rw [he] at h
    clear he
    simp only at h
    cases eo : o.op <;> simp only [eo] at h
    case pick c x y =>
      obtain ⟨v', s', h1, h2, h3, h4, h5⟩ := pick_step (P := P) I eo h
      refine ⟨v', fun w' k => ?_, hn _ _ h1 h2 h3 h4⟩
      unfold Oper.quietAt
      rw [h5 w']
      exact ⟨rfl, rfl⟩
    case call c =>
      obtain ⟨cal, args, ats⟩ := c
      cases cal
      case invoke => exact h.elim
      case builtin => exact h.elim
      rename_i x
      obtain ⟨fv, h1, h2⟩ := rd_out I.fr.rel h
      split at h1
      case h_2 => exact h1.elim
      rename_i g first cap
      obtain ⟨first', cap', hx, hf, hc⟩ := func_inv h2
      obtain ⟨vs, h3, h4⟩ := rdAll_out I.fr.rel _ h1
      obtain ⟨hent, hsound⟩ := hE.quiet _ _ _ _ _ h3
      obtain ⟨r, k1, k2, k3⟩ := hsound _ _ _ _ h3
      obtain ⟨s', g1, g2, g3, g4⟩ := putK_out I (flat_refl k2) k1
      refine ⟨r, fun w' k => ?_, hn _ _ g1 g2 g3 g4⟩
      unfold Oper.quietAt
      rw [call_args eo hx hent]
      exact ⟨rfl, (k3 Fb β w' _ (I.rel.keep k) ((hf.append h4).append hc)).mono fun e W' ⟨e1, e2⟩ => ⟨e1, k.trans e2⟩⟩

theorem still_step {o : Oper} {s : St} {K : St → Prop} {β : Be} {a : Act} {w : World} {next : Act → Prop} (hE : EnvOk P E) (I : Inv Fb E.N l0 W0 nb0 β0 H0 s β a w) (h : aopR E o s K)
    (hn : ∀ s' a', K s' → Inv Fb E.N l0 W0 nb0 β0 H0 s' β a' w → next a') : o.still P a w next := by
  unfold aopR at h
  cases he : ro E.T s.fr s.h o.op (fun v => putK E s o.dst v K) with
  | some X =>
    rw [he] at h
    obtain ⟨v, v', s', h1, h2, h3, h4, h5, h6⟩ := ro_step hE I he h
    unfold Oper.still
    rw [h6 w (.inl (Keeps.refl w))]
    exact ⟨rfl, hn _ _ h1 h3⟩
  | none =>
    rw [he] at h
    clear he
    simp only at h
    cases eo : o.op <;> simp only [eo] at h
    case pick c x y =>
      obtain ⟨v', s', h1, h2, h3, h4, h5⟩ := pick_step (P := P) I eo h
      unfold Oper.still
      rw [h5 w]
      exact ⟨rfl, hn _ _ h1 h2⟩

theorem aopsR_out (hE : EnvOk P E) {ops : Array Oper} {β : Be} {w : World} {Q : Act → Prop} {K : St → Prop} (hQ : ∀ s a, K s → Inv Fb E.N l0 W0 nb0 β0 H0 s β a w → Q a) :
    ∀ (l : List Oper) (s : St) (a : Act), aopsR E ops l s K → Inv Fb E.N l0 W0 nb0 β0 H0 s β a w → wpStill P ops w Q l a
  | [], s, a, h, I => hQ _ _ h I
  | o :: rest, s, a, h, I => by
    obtain ⟨s', I', _, _, h⟩ := guard_out I h
    unfold wpStill
    rcases h with ⟨hw, h⟩ | ⟨hw, h⟩
    · rw [if_pos hw]
      exact still_step hE I' h fun s2 a2 h2 I2 => aopsR_out hE hQ rest s2 a2 h2 I2
    · rw [if_neg (by simp [hw])]
      obtain ⟨s2, h2, I2, _, _⟩ := putK_out I' RV.undef h
      exact aopsR_out hE hQ rest s2 _ h2 I2

theorem aopsQ_out (hE : EnvOk P E) {ops : Array Oper} {β : Be} {w : World} {H : Hp} {nb : Nat} {Q : Act → Prop} {K : St → Prop} (hQ : ∀ s a, K s → Inv Fb E.N l0 W0 nb0 β0 H0 s β a w → s.h = H → s.nb = nb → Q a) :
    ∀ (l : List Oper) (s : St) (a : Act), aopsQ E ops l s K → Inv Fb E.N l0 W0 nb0 β0 H0 s β a w → s.h = H → s.nb = nb → wpQuiet P ops (Keeps w) Q l a
  | [], s, a, h, I, e1, e2 => hQ _ _ h I e1 e2
  | o :: rest, s, a, h, I, e1, e2 => by
    obtain ⟨s', I', f1, f2, h⟩ := guard_out I h
    unfold wpQuiet
    rcases h with ⟨hw, h⟩ | ⟨hw, h⟩
    · rw [if_pos hw]
      exact quiet_step hE I' h fun s2 a2 h2 I2 g1 g2 => aopsQ_out hE hQ rest s2 a2 h2 I2 (g1.trans (f1.trans e1)) (g2.trans (f2.trans e2))
    · rw [if_neg (by simp [hw])]
      obtain ⟨s2, h2, I2, g1, g2⟩ := putK_out I' RV.undef h
      exact aopsQ_out hE hQ rest s2 _ h2 I2 (g1.trans (f1.trans e1)) (g2.trans (f2.trans e2))

def AEx.exit' : AEx → Exit
  | .normal => .normal
  | .exit i => .exit i
  | .ret => .ret

theorem soft_out {v : Value} {K : Value → Prop} {D : Prop} (h : soft v K D) : K v ∨ D := by
  cases v <;> first | exact .inl h | exact .inr h

theorem keepSlots_out {β : Be} {H : Hp} {nb : Nat} {fr : Fr} {t : Nat → Value} (hr : ∀ k, RV β H nb (fr k) (t k)) : ∀ (L : List Nat) {K : List (Nat × Value) → Prop}, keepSlots fr L K → ∃ f, K f ∧ ∀ k, RV β H nb (frame f k) (t k)
  | [], K, h => ⟨_, h, fun k => .unk _⟩
  | d :: L, K, h => by
    rcases soft_out h with h1 | h1
    · obtain ⟨f, h4, h5⟩ := keepSlots_out hr L h1
      refine ⟨_, h4, fun k => ?_⟩
      show RV _ _ _ (upd (frame f) d (fr d) k) _
      by_cases e : k = d
      · subst e; rw [upd_same]; exact hr k
      · rw [upd_ne _ _ e]; exact h5 k
    · exact keepSlots_out hr L h1

theorem gcAt_out {N cur : Nat} {s : St} {K : St → Prop} {β : Be} {a : Act} {w : World} (I : Inv Fb N l0 W0 nb0 β0 H0 s β a w) (h : gcAt E cur s K) : ∃ s', K s' ∧ Inv Fb N l0 W0 nb0 β0 H0 s' β a w := by
  unfold gcAt at h
  split at h
  · exact ⟨_, h, I⟩
  · obtain ⟨fr, H, nb, lo⟩ := s
    obtain ⟨f, h3, h4⟩ := keepSlots_out I.fr.rel _ h
    exact ⟨_, h3, I.rel, I.foot, ⟨I.fr.size, h4, I.fr.defers⟩, I.lole⟩

theorem weakH_at : ∀ {n : Nat} {h h' : Hp}, weakH n h h' → ∀ b, b < n → wObj (h b) (h' b)
  | 0, _, _, _, b, hb => absurd hb (Nat.not_lt_zero _)
  | n + 1, h, h', hw, b, hb => by
    rcases Nat.lt_or_ge b n with h1 | h1
    · exact weakH_at hw.2 b h1
    · obtain rfl : b = n := by omega
      exact hw.1

theorem cellsV_at {g' f : Nat → Value} : ∀ {n : Nat}, cellsV g' f n → ∀ k, k < n → g' k = f k
  | 0, _, k, hk => absurd hk (Nat.not_lt_zero _)
  | n + 1, h, k, hk => by
    rcases Nat.lt_or_ge k n with h1 | h1
    · exact cellsV_at h.2 k h1
    · obtain rfl : k = n := by omega
      exact veq_out h.1

theorem wObj_cases {a b : AObj} (h : wObj a b) : a = b ∨ ∃ o fl n g fl' g', a = .cells o fl n g ∧ b = .cells o fl' n g' ∧ (fl' = true → fl = true) ∧ (g.ok n → g'.ok n) ∧ ∀ k, k < n → g.at k = g'.at k := by
  rcases h with h | h
  · exact .inl h
  unfold oObj at h
  cases b with
  | none => exact .inl h
  | iter => exact .inl h
  | map fl es =>
    cases a <;> simp only at h
    all_goals first | exact h.elim | skip
    obtain ⟨h1, rfl⟩ := chk_out h
    simp only [Bool.and_eq_true] at h1
    exact .inl (by rw [h1.1, h1.2])
  | cells o fl n g =>
    cases a <;> simp only at h
    all_goals first | exact h.elim | skip
    rename_i o' fl' n' g'
    have hc := chk_out h
    clear h
    have h1 := hc.1
    have h := hc.2
    clear hc
    simp only [Bool.and_eq_true, beq_iff_eq] at h1
    obtain ⟨rfl, h1⟩ := h1
    have hfl : fl = true → fl' = true := by cases fl <;> cases fl' <;> simp_all
    right
    cases g with
    | fn f =>
      obtain ⟨rfl, h2⟩ := h
      refine ⟨_, _, _, _, _, _, rfl, rfl, hfl, fun _ => trivial, ?_⟩
      rcases h2 with ⟨_, h2⟩ | h2
      · exact h2
      · exact cellsV_at h2
    | ints k l =>
      cases g' with
      | ints k' l' =>
        have hc := chk_out h
        clear h
        have h2 := hc.1
        obtain ⟨rfl, rfl⟩ := hc.2
        have h2 := of_decide_eq_true h2
        subst h2
        exact ⟨_, _, _, _, _, _, rfl, rfl, hfl, id, fun _ _ => rfl⟩
      | _ => obtain ⟨rfl, h2, h3⟩ := h; exact ⟨_, _, _, _, _, _, rfl, rfl, hfl, fun _ => h2, h3⟩
    | strs l =>
      cases g' with
      | strs l' => obtain ⟨rfl, rfl⟩ := h; exact ⟨_, _, _, _, _, _, rfl, rfl, hfl, id, fun _ _ => rfl⟩
      | _ => obtain ⟨rfl, h2, h3⟩ := h; exact ⟨_, _, _, _, _, _, rfl, rfl, hfl, fun _ => h2, h3⟩
    | bools l =>
      cases g' with
      | bools l' => obtain ⟨rfl, rfl⟩ := h; exact ⟨_, _, _, _, _, _, rfl, rfl, hfl, id, fun _ _ => rfl⟩
      | _ => obtain ⟨rfl, h2, h3⟩ := h; exact ⟨_, _, _, _, _, _, rfl, rfl, hfl, fun _ => h2, h3⟩

theorem weak_ext {β : Be} {H H' : Hp} {nb : Nat} (hw : ∀ b, b < nb → wObj (H b) (H' b)) : Ext β H nb β H' nb := by
  refine ⟨Nat.le_refl _, fun b hb => ?_⟩
  unfold ObjExt
  rcases wObj_cases (hw b hb) with h | ⟨o, fl, n, g, fl', g', e, e', _⟩
  · rw [← h]; cases H b <;> simp
  · simp [e, e']

theorem weak_rel {β : Be} {H H' : Hp} {nb : Nat} {w : World} (hw : ∀ b, b < nb → wObj (H b) (H' b)) (R : Rel Fb β H nb w) : Rel Fb β H' nb w := by
  have ex := weak_ext (β := β) hw
  refine ⟨fun b hb => ?_, fun b b' hb hb' hne ho hn => ?_, R.floor.to (Nat.le_refl _) (fun _ _ _ => rfl) fun b hb ho => .inl ⟨b, hb, by
    rcases wObj_cases (hw b hb) with h | ⟨o, fl, n, g, fl', g', e, e', _⟩
    · rw [h]; exact ho
    · rw [e'] at ho; rw [e]; exact ho, rfl⟩⟩
  · have h0 := R.objs b hb
    rcases wObj_cases (hw b hb) with h | ⟨o, fl, n, g, fl', g', e, e', h2, h3, h4⟩
    · refine ObjOk.ext' hb ex h.symm rfl (fun m hm hmm => ⟨?_, rfl⟩) h0
      rcases wObj_cases (hw m hm) with h | ⟨_, _, _, _, _, _, e, _⟩
      · exact h.symm
      · rw [e] at hmm; cases hmm
    · unfold ObjOk at h0 ⊢
      simp only [e, e'] at h0 ⊢
      obtain ⟨C, t, fz, q1, q2, q3, q4, q5, q6, q7⟩ := h0
      refine ⟨C, t, fz, q1, q2, q3, fun o ho => ?_, q5, fun hf o ho => ?_, h3 q7⟩
      · rw [← h4 o ho]
        obtain ⟨v', r1, r2⟩ := q4 o ho
        exact ⟨v', r1, r2.ext ex⟩
      · rw [← h4 o ho]; exact q6 (h2 hf) o ho
  · have key : ∀ c, c < nb → isOwn (H' c) = isOwn (H c) ∧ isNone (H' c) = isNone (H c) := fun c hc => by
      rcases wObj_cases (hw c hc) with h | ⟨_, _, _, _, _, _, e, e', _⟩
      · rw [h]; exact ⟨rfl, rfl⟩
      · rw [e, e']; exact ⟨rfl, rfl⟩
    exact R.inj b b' hb hb' hne ((key b hb).1 ▸ ho) ((key b' hb').2 ▸ hn)

theorem weak_out {N : Nat} {s t : St} {β : Be} {a : Act} {w : World} (I : Inv Fb N l0 W0 nb0 β0 H0 s β a w) (h : weakS s t) : Inv Fb N l0 W0 nb0 β0 H0 t β a w := by
  obtain ⟨fr, H, nb, lo⟩ := s
  obtain ⟨fr', H', nb', lo'⟩ := t
  obtain ⟨h1, rfl, h3, h4⟩ := h
  have hw := weakH_at h4
  have ex := weak_ext (β := β) hw
  have F : Foot W0 nb0 β0 H0 lo' β H nb w := I.foot.lo_mono h3
  refine ⟨weak_rel hw I.rel, ⟨F.size, F.keep, F.new, F.le, F.ext.trans ex, F.same⟩, ⟨I.fr.size, fun k => ?_, I.fr.defers⟩, Nat.le_trans h3 I.lole⟩
  rcases h1 k with h | h
  · show RV _ _ _ (fr' k) _
    rw [h]; exact .unk _
  · show RV _ _ _ (fr' k) _
    rw [← h]; exact (I.fr.rel k).ext ex

theorem weakR_out {N : Nat} {R : List (Nat × Nat)} {s t : St} {β : Be} {a : Act} {w : World} (I : Inv Fb N l0 W0 nb0 β0 H0 s β a w) (h : weakR nb0 R s t) : ∃ β', Inv Fb N l0 W0 nb0 β0 H0 t β' a w := by
  obtain ⟨fr, H, nb, lo⟩ := s
  obtain ⟨fr', H', nb', lo'⟩ := t
  obtain ⟨h1, h2, h3, h4⟩ := h
  have hρ := renOk_out h1
  have hh := heapR_at h3
  refine ⟨fun b => β (renF R b), ren_rel hρ hh I.rel, ren_foot hρ hh h2 I.foot, ⟨I.fr.size, fun k => ?_, I.fr.defers⟩, Nat.le_trans h2 I.lole⟩
  rcases h4 k with h | ⟨h, h'⟩
  · show RV _ _ _ (fr' k) _
    rw [h]; exact .unk _
  · show RV _ _ _ (fr' k) _
    refine ren_rv (nb := nb) (h := H) (β := β) hh ?_ h
    rw [← h']; exact I.fr.rel k

theorem weakX_out {N : Nat} {s t : St} {β : Be} {a : Act} {w : World} (I : Inv Fb N l0 W0 nb0 β0 H0 s β a w) (h : weakX nb0 s t) : ∃ β', Inv Fb N l0 W0 nb0 β0 H0 t β' a w := by
  rcases h with h | ⟨R, h⟩
  · exact ⟨β, weak_out I h⟩
  · exact weakR_out I h

/-- **A PIECE OF CODE.** -/
theorem awp_out (hE : EnvOk P E) (hb : E.b0 = nb0) : ∀ (c : Code) {Q : Exit → Act → World → Prop} {K : AEx → St → Prop} (cur : Nat) (s : St) (β : Be) (a : Act) (w : World), bodyOk E c = true → awp E c cur s K → Inv Fb E.N l0 W0 nb0 β0 H0 s β a w →
    (∀ e s β a w, K e s → Inv Fb E.N l0 W0 nb0 β0 H0 s β a w → Q e.exit' a w) → c.wp P Q a w := by
  intro c
  induction c with
  | skip => exact fun cur s β a w hbo h I hQ => wp_skip (hQ _ _ _ _ _ h I)
  | region id ops draw =>
    intro Q K cur s β a w hbo h I hQ
    cases draw with
    | false => exact wp_region_list (aops_out hE (fun s β a w h I => hQ _ _ _ _ _ h I) _ s β a w h I)
    | true =>
      simp only [awp] at h
      simp only [bodyOk] at hbo
      cases eo : lookD E.ord id with
      | none => rw [eo] at h; exact h.elim
      | some md =>
      rw [eo] at h hbo
      cases md with
      | tree t => exact tree_region hE hbo h I fun s β a w hk I2 => hQ _ _ _ _ _ hk I2
      | draw l cf => exact draw_region hE (hE.drw _ _ _ hbo) h I fun s β a w hk I2 => hQ _ _ _ _ _ hk I2
      | tail =>
        obtain ⟨l⟩ := ops
        refine wp_region_still_tail (l := l) (headLen l) hE.mixed (hE.lexT _ _ hbo) ?_
        exact aopsR_out hE (fun s2 a2 hk I2 => aops_out hE (fun s β a w h I => hQ _ _ _ _ _ h I) _ s2 β a2 _ hk I2) _ s a h (I.keep (keeps_drew w))
      | quiet =>
        refine wp_region_quiet (C := Keeps w) hE.mixed (hE.lex _ hbo) ⟨fun _ _ => rfl, rfl, rfl, rfl⟩ ?_
        exact aopsQ_out hE (H := s.h) (nb := s.nb) (fun s2 a2 hk I2 _ _ w' k => hQ _ _ _ _ _ hk (I2.keep k)) _ s a h I rfl rfl
  | seq x y ih1 ih2 =>
    intro Q K cur s β a w hbo h I hQ
    simp only [bodyOk, Bool.and_eq_true] at hbo
    refine wp_seq (ih1 _ s β a w hbo.1 h I fun e s2 β2 a2 w2 hk I2 => ?_)
    cases e with
    | normal => exact ih2 _ s2 β2 a2 w2 hbo.2 hk I2 hQ
    | exit i => exact hQ _ _ _ _ _ hk I2
    | ret => exact hQ _ _ _ _ _ hk I2
  | cond c x y ih1 ih2 =>
    intro Q K cur s β a w hbo h I hQ
    simp only [awp] at h
    cases c <;> simp only at h
    all_goals first | exact h.elim | skip
    rename_i c
    obtain ⟨fr, H, nb, lo⟩ := s
    simp only at h
    cases ef : fr c <;> simp only [ef] at h
    case bool b =>
    have hb := bool_of_fr (d := c) I ef
    have I2 : Inv Fb E.N l0 W0 nb0 β0 H0 ⟨upd fr c (.bool b), H, nb, lo⟩ β a w := ⟨I.rel, I.foot, I.fr.learn ef, I.lole⟩
    refine wp_cond (t := b) hb ?_
    cases b <;> simp only [bcase] at h
    · exact ih2 _ _ _ _ _ (by simp only [bodyOk, Bool.and_eq_true] at hbo; exact hbo.2) h I2 hQ
    · exact ih1 _ _ _ _ _ (by simp only [bodyOk, Bool.and_eq_true] at hbo; exact hbo.1) h I2 hQ
  | block id c ih =>
    intro Q K cur s β a w hbo h I hQ
    refine wp_block (ih _ s β a w hbo h I fun e s2 β2 a2 w2 hk I2 => ?_)
    cases e with
    | normal => exact hQ _ _ _ _ _ hk I2
    | ret => exact hQ _ _ _ _ _ hk I2
    | exit i =>
      rcases bcase_out hk with ⟨h1, h2⟩ | ⟨h1, h2⟩
      · have h1 : i = id := by simpa using h1
        subst h1
        simp only [AEx.exit', Exit.inBlock, if_true]
        exact hQ _ _ _ _ _ h2 I2
      · have h1 : i ≠ id := fun he => by subst he; simp at h1
        simp only [AEx.exit', Exit.inBlock, if_neg h1]
        exact hQ _ _ _ _ _ h2 I2
  | loop c ih =>
    intro Q K cur s β a w hbo h I hQ
    obtain ⟨fr, H, nb, lo⟩ := s
    simp only [awp] at h
    obtain ⟨s1, h, I1⟩ := gcAt_out I h
    refine h.elim (fun h => ?_) (fun h => ?_)
    rotate_left
    · obtain ⟨α, μ, S, J, ⟨a0, hst, hm⟩, hstep⟩ := h
      refine wp_loop_rounds (μ a0 + 1) ?_
      have key : ∀ (m : Nat) (x : α) (β : Be) (a : Act) (w : World), μ x < m → J x → Inv Fb E.N l0 W0 nb0 β0 H0 (S x) β a w → Code.rounds P c Q m a w := by
        intro m
        induction m with
        | zero => exact fun _ _ _ _ h _ _ => absurd h (Nat.not_lt_zero _)
        | succ m ihm =>
          intro x β a w hm' h I
          rw [rounds_succ]
          refine ih _ _ β a w hbo (hstep x h) I fun e s2 β2 a2 w2 hk I2 => ?_
          cases e with
          | normal =>
            obtain ⟨s3, ⟨x', h4, h5, h3⟩, I3⟩ := gcAt_out I2 hk
            rw [hb] at h3
            obtain ⟨β3, I4⟩ := weakX_out I3 h3
            exact ihm x' β3 a2 w2 (by omega) h5 I4
          | exit i => exact hQ _ _ _ _ _ hk I2
          | ret => exact hQ _ _ _ _ _ hk I2
      rw [hb] at hst
      obtain ⟨β1, I4⟩ := weakX_out I1 hst
      exact key _ a0 β1 a w (Nat.lt_succ_self _) hm I4
    obtain ⟨m, h⟩ := h
    refine wp_loop_rounds m ?_
    have key : ∀ (m : Nat) (s : St) (β : Be) (a : Act) (w : World), aloop (gcAt E cur) (awp E c cur) m s K → Inv Fb E.N l0 W0 nb0 β0 H0 s β a w → Code.rounds P c Q m a w := by
      intro m
      induction m with
      | zero => exact fun _ _ _ _ h _ => h.elim
      | succ m ihm =>
        intro s β a w h I
        rw [rounds_succ]
        refine ih _ s β a w hbo h I fun e s2 β2 a2 w2 hk I2 => ?_
        cases e with
        | normal =>
          obtain ⟨s3, h3, I3⟩ := gcAt_out I2 hk
          exact ihm s3 β2 a2 w2 h3 I3
        | exit i => exact hQ _ _ _ _ _ hk I2
        | ret => exact hQ _ _ _ _ _ hk I2
    exact key m s1 β a w h I1
  | exit id => exact fun cur s β a w hbo h I hQ => wp_exit (hQ _ _ _ _ _ h I)
  | ret => exact fun cur s β a w hbo h I hQ => wp_ret (hQ _ _ _ _ _ h I)
  | rangeFunc f ps x y _ _ => exact fun cur s β a w hbo h I hQ => h.elim
  | scope c _ => exact fun cur s β a w hbo h I hQ => h.elim
  | label l => exact fun cur s β a w hbo h I hQ => h.elim
  | goto l => exact fun cur s β a w hbo h I hQ => h.elim
  | refuse y => exact fun cur s β a w hbo h I hQ => h.elim

/-! ### A whole function -/

def resSem (a : Act) : ResultVar → Sem Value
  | .tmp t => pure (a.tmps.getD t undef)
  | .cell p t => do loadVar t (← asAddr (a.tmps.getD p undef))

theorem result_out {N : Nat} {T : TT} {s : St} {β : Be} {a : Act} {w : World} (hT : TOk P T) (I : Inv Fb N l0 W0 nb0 β0 H0 s β a w) {x : ResultVar} {K : Value → Prop} (h : aresult T s x K) :
    ∃ v v', K v ∧ RV β s.h s.nb v v' ∧ (resSem a x).run P w = .ok v' w := by
  cases x with
  | tmp t => exact ⟨_, _, force_out h, I.fr.rel t, rfl⟩
  | cell p t =>
    have h : force (s.fr p) (fun q => aload T t q s.h K) := h
    have h1 := force_out h
    obtain ⟨v, v', h3, h4, h5⟩ := load_out hT I.rel (I.fr.rel p) h1
    have h6 := h5 w (Keeps.refl w)
    refine ⟨v, v', h3, h4, ?_⟩
    have hp : ∃ a', a.tmps.getD p undef = .pointer (some a') := by
      have hr := I.fr.rel p
      generalize s.fr p = x at *
      generalize a.tmps.getD p undef = y at hr ⊢
      unfold aload at h1
      split at h1
      case h_2 => exact h1.elim
      cases hr with
      | ptr ha => exact ⟨_, rfl⟩
    obtain ⟨a', hp⟩ := hp
    rw [hp] at h6
    simpa [resSem, Instr.loadAt, Instr.sureAddr, asAddr, hp] using h6

theorem results_out {N : Nat} {T : TT} {s : St} {β : Be} {a : Act} {w : World} (hT : TOk P T) (I : Inv Fb N l0 W0 nb0 β0 H0 s β a w) : ∀ (xs : List ResultVar) {K : List Value → Prop}, aresults T s xs K →
    ∃ l l', K l ∧ RVs β s.h s.nb l l' ∧ (xs.mapM (resSem a)).run P w = .ok l' w
  | [], K, h => ⟨[], [], h, ⟨rfl, fun i hi => absurd hi (by simp)⟩, rfl⟩
  | x :: xs, K, h => by
    obtain ⟨v, v', h1, h2, h3⟩ := result_out hT I h
    obtain ⟨l, l', h4, h5, h6⟩ := results_out hT I xs h1
    refine ⟨v :: l, v' :: l', h4, ⟨by simp [h5.1], fun i hi => ?_⟩, ?_⟩
    · cases i with
      | zero => simpa using h2
      | succ i => simpa using h5.2 i (by simpa using hi)
    · rw [List.mapM_cons]
      simp only [Sem.run_bind, Sem.run_pure, h6, h3, Result.andThen_ok]

theorem initFr_rel {β : Be} {H : Hp} {nb : Nat} {args argsC : List Value} {n : Nat} (h : RVs β H nb args argsC) (k : Nat) :
    RV β H nb (initFr args k) (((⟨argsC⟩ : Array Value) ++ Array.replicate (n - argsC.length) undef).getD k undef) := by
  unfold initFr
  rcases Nat.lt_or_ge k args.length with h1 | h1
  · have h2 : k < argsC.length := h.1 ▸ h1
    have := h.2 k h1
    simpa [List.getD_eq_getElem?_getD, Array.getElem?_append, h2] using this
  · have h2 : argsC.length ≤ k := h.1 ▸ h1
    have e1 : args.getD k undef = undef := by simp [List.getD_eq_getElem?_getD, List.getElem?_eq_none h1]
    rw [e1]
    have e2 : (((⟨argsC⟩ : Array Value) ++ Array.replicate (n - argsC.length) undef).getD k undef) = undef := by
      have : ¬ (k < argsC.length) := by omega
      rw [Array.getD_eq_getD_getElem?, Array.getElem?_append]
      simp only [List.size_toArray, this, if_false]
      by_cases h3 : k - argsC.length < n - argsC.length
      · simp [Array.getElem?_replicate, h3]
      · simp [Array.getElem?_replicate, h3]
    rw [e2]
    exact RV.undef

theorem bodyOk_at {b : Nat} : ∀ (c : Code), bodyOk (E.at b) c = bodyOk E c := by
  intro c
  induction c with
  | region id ops draw => cases draw <;> rfl
  | seq a b ih1 ih2 => simp only [bodyOk, ih1, ih2]
  | cond x a b ih1 ih2 => simp only [bodyOk, ih1, ih2]
  | block i c ih => simp only [bodyOk, ih]
  | loop c ih => simp only [bodyOk, ih]
  | _ => rfl

/-- **A FUNCTION, BY ITS BODY.** -/
theorem abody_sound (hE : EnvOk P E) {f : Nat} {fn : Func} (hf : P.funcs[f]? = some fn) : SoundW P f (abody E fn) := by
  intro args H nb K h Fb β W argsC R hargs
  unfold abody at h
  cases eb : fn.body with
  | none => rw [eb] at h; exact h.elim
  | some c =>
    rw [eb] at h
    obtain ⟨h1, h⟩ := chk_out h
    simp only [Bool.and_eq_true, Nat.beq_eq, Nat.ble_eq] at h1
    refine calls_of_wp hf eb ?_
    have I0 : Inv Fb E.N nb W nb β H ⟨initFr args, H, nb, nb⟩ β { tmps := (⟨argsC⟩ : Array Value) ++ Array.replicate (fn.ntmps - (⟨argsC⟩ : Array Value).size) undef, defers := [] } W :=
      ⟨R, Foot.refl _ _ _ _, ⟨by have := hargs.1; simp; omega, fun k => initFr_rel hargs k, rfl⟩, Nat.le_refl _⟩
    have hE' : EnvOk P (E.at nb) := hE.at nb
    have hbo : bodyOk (E.at nb) c = true := by rw [bodyOk_at]; exact h.1
    refine awp_out hE' rfl c _ _ _ _ _ hbo h.2 I0 fun e s β' a w hk I => ?_
    have key : ∀ {X : Prop}, (aresults E.T s fn.results.toList fun vs => match vs with
        | [v] => K v s.h s.nb s.lo
        | vs => K (.tuple ⟨vs⟩) s.h s.nb s.lo) → a.defers = [] ∧ ∃ v, (results fn a.tmps).run P w = .ok v w ∧ (∃ r H' nb' lo β' v', K r H' nb' lo ∧ Ending.returned v = .returned v' ∧ RV β' H' nb' r v' ∧ Rel Fb β' H' nb' w ∧ Foot W nb β H lo β' H' nb' w) := by
      intro X hk
      obtain ⟨l, l', g1, g2, g3⟩ := results_out hE.types I fn.results.toList hk
      have hrun : (results fn a.tmps).run P w = .ok (if h : (⟨l'⟩ : Array Value).size = 1 then (⟨l'⟩ : Array Value)[0] else .tuple ⟨l'⟩) w := by
        have e0 : results fn a.tmps = (do let vs ← fn.results.mapM (resSem a); pure (if h : vs.size = 1 then vs[0] else .tuple vs)) := by
          unfold results
          congr 1
        rw [e0, Array.mapM_eq_mapM_toList]
        simp only [Sem.run_bind, Sem.run_map, g3, Result.andThen_ok, Sem.run_pure]
      refine ⟨I.fr.defers, _, hrun, ?_⟩
      split at g1
      · rename_i v
        cases l' with
        | nil => have := g2.1; simp at this
        | cons v' t =>
          have : t = [] := by have := g2.1; simpa using this.symm
          subst this
          have hv : RV β' s.h s.nb v v' := by simpa using g2.2 0 (by simp)
          exact ⟨v, s.h, s.nb, s.lo, β', v', g1, by simp, hv, I.rel, I.foot⟩
      · rename_i hne
        have hl : ¬ ((⟨l'⟩ : Array Value).size = 1) := by
          intro he
          have he : l.length = 1 := by rw [g2.1]; simpa using he
          match l, he with
          | [v], _ => exact hne v rfl
        rw [dif_neg hl]
        exact ⟨_, s.h, s.nb, s.lo, β', _, g1, rfl, .tuple g2.1 g2.2, I.rel, I.foot⟩
    cases e with
    | normal => exact key (X := True) hk
    | ret => exact key (X := True) hk
    | exit i => exact hk.elim

end Go.Eng
