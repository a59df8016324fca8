/- A part of the interpreter of Go code, and of the proof that it says what Go does; no condition. -/
import Derived.Test.YtnnfbgonjonflaaEng20
/-! Functions that answer with a slice that has room behind it. -/
set_option linter.unusedSimpArgs false
set_option linter.unusedVariables false
namespace Go.Eng
variable {Fb : Nat}
variable {P : Program}

/-- The first 'm' of 'n' cells are those. -/
def celPre (n m : Nat) (g c : Cel) : Prop :=
  match c with
  | .ints k l => match g with
    | .ints k' l' => chk (decide (k' = k)) (l'.take m = l)
    | _ => False
  | _ => False

theorem celPre_out {n m : Nat} {g c : Cel} (h : celPre n m g c) : c.typed = true ∧ (g.ok n → m ≤ n → c.ok m) ∧ ∀ i, i < m → g.at i = c.at i := by
  unfold celPre at h
  cases c <;> try simp only at h
  all_goals first | exact h.elim | skip
  cases g <;> try simp only at h
  all_goals first | exact h.elim | skip
  rename_i k l k' l'
  have hc := chk_out h
  have h1 := of_decide_eq_true hc.1
  have h2 := hc.2
  subst h1 h2
  refine ⟨rfl, fun hg hm => ?_, fun i hi => ?_⟩
  · simp only [Cel.ok] at *
    rw [List.length_take]; omega
  · simp only [Cel.at, List.getD_eq_getElem?_getD, List.getElem?_take, hi, if_true]

def resOkP (k : Nat) (H' : Hp) : List DV → List Value → List Nat → Prop
  | [], vs, _ => vs = []
  | .v x :: rs, vs, u => match vs with
    | v :: vs => (veqT v x ∧ flat x = true) ∧ resOkP k H' rs vs u
    | [] => False
  | .nil :: rs, vs, u => match vs with
    | v :: vs => v = .slice none 0 0 ∧ resOkP k H' rs vs u
    | [] => False
  | .sl es len c :: rs, vs, u => match vs with
    | .slice (some ⟨b, 0, some n⟩) len' es' :: vs => match H' b with
      | .cells true _ n' g => chk (Nat.ble k b && u.all (fun x => !Nat.beq x b) && Nat.beq es' es) ((len' = len ∧ n = n' ∧ len' * es' ≤ n' ∧ celPre n' (len' * es') g c) ∧ resOkP k H' rs vs (b :: u))
      | _ => False
    | _ => False
  | .zero _ :: rs, vs, u => match vs with
    | .slice (some ⟨_, _, none⟩) 0 _ :: vs => resOkP k H' rs vs u
    | _ => False

theorem adopt_oneP {W W' : World} {β : Be} {H : Hp} {nb k : Nat} {βk β' : Be} {Hk H' : Hp} {nb' lo : Nat} {β1 : Be} {H1 : Hp} {nb1 : Nat} {u : List Nat} (R : ∀ c, c < nb → isNone (H c) = false → (β c).blk < W.heap.size) (R' : Rel Fb β' H' nb' W') (F : Foot W k βk Hk lo β' H' nb' W')
    (A : Adopt Fb W W' β H nb k β' H' nb' β1 H1 nb1 u) {b n m : Nat} (hm : m ≤ n) {fl : Bool} {g c : Cel} (hb : b < nb') (hk : k ≤ b) (hu : ∀ x ∈ u, x ≠ b) (e : H' b = .cells true fl n g) (ht : c.typed = true) (hok : c.ok m) (hc : ∀ j, j < m → g.at j = c.at j) :
    Adopt Fb W W' β H nb k β' H' nb' (upd β1 nb1 (β' b)) (upd H1 nb1 (.cells true true m c)) (nb1 + 1) (b :: u) := by
  have ex := ext_alloc (β := β1) (H := H1) (nb := nb1) (β' b) (.cells true true m c)
  have hsz : W.heap.size ≤ (β' b).blk := by
    rcases F.new b hb with h | h
    · omega
    · exact h
  have key : ∀ c0, c0 < nb1 → isNone (H1 c0) = false → (β1 c0).blk ≠ (β' b).blk := fun c0 h0 hnn => by
    rcases Nat.lt_or_ge c0 nb with h1 | h1
    · obtain ⟨e1, e2⟩ := A.old c0 h1
      have := R c0 h1 (by rw [← e2]; exact hnn)
      rw [e1]; omega
    · obtain ⟨b0, m1, m2, _, m3, m4⟩ := A.new c0 h1 h0
      rw [m4]
      exact R'.inj b0 b m2 hb (hu b0 m1) m3 (by rw [e]; rfl)
  refine ⟨Nat.le_succ_of_le A.le, ⟨fun c0 h0 => ?_, fun c0 c1 h0 h1 hne ho hn => ?_, A.rel.floor.le, fun c0 h0 ho => by
    rcases Nat.lt_or_ge c0 nb1 with h1 | h1
    · rw [upd_ne _ _ (Nat.ne_of_lt h1)] at ho ⊢; exact A.rel.floor.own c0 h1 ho
    · obtain rfl : c0 = nb1 := by omega
      rw [upd_same]; exact R'.floor.own b hb (by rw [e]; rfl), A.rel.floor.ok⟩, fun c0 h0 => ?_, fun c0 h0 h1 => ?_⟩
  · rcases Nat.lt_or_ge c0 nb1 with h1 | h1
    · have hn : c0 ≠ nb1 := Nat.ne_of_lt h1
      exact ObjOk.ext' h1 ex (upd_ne _ _ hn) (upd_ne _ _ hn) (fun m hm _ => ⟨upd_ne _ _ (Nat.ne_of_lt hm), upd_ne _ _ (Nat.ne_of_lt hm)⟩) (A.rel.objs c0 h1)
    · obtain rfl : c0 = nb1 := by omega
      have h2 := R'.objs b hb
      unfold ObjOk at h2 ⊢
      simp only [e, upd_same] at h2 ⊢
      obtain ⟨C, t, fz, q1, q2, q3, q4, q5, q6, q7⟩ := h2
      refine ⟨C, t, fz, q1, q2, by omega, fun o ho => ?_, q5, fun _ o _ => Cel.flat_of ht o, hok⟩
      obtain ⟨v', r1, r2⟩ := q4 o (by omega)
      rw [hc o ho] at r2
      rw [flat0_eq r2 (Cel.flat_of ht o)] at r1
      exact ⟨_, r1, flat0_refl (Cel.flat_of ht o)⟩
  · rcases Nat.lt_or_ge c0 nb1 with h2 | h2
    · rw [upd_ne _ _ (Nat.ne_of_lt h2)] at ho ⊢
      rcases Nat.lt_or_ge c1 nb1 with h3 | h3
      · rw [upd_ne _ _ (Nat.ne_of_lt h3)] at hn ⊢
        exact A.rel.inj c0 c1 h2 h3 hne ho hn
      · obtain rfl : c1 = nb1 := by omega
        rw [upd_same]
        exact key c0 h2 (by cases e2 : H1 c0 <;> simp_all [isOwn, isNone])
    · obtain rfl : c0 = nb1 := by omega
      have h3 : c1 < c0 := by omega
      rw [upd_ne _ _ (Nat.ne_of_lt h3)] at hn ⊢
      rw [upd_same]
      exact (key c1 h3 hn).symm
  · have : c0 ≠ nb1 := by have := A.le; omega
    rw [upd_ne _ _ this, upd_ne _ _ this]; exact A.old c0 h0
  · rcases Nat.lt_or_ge c0 nb1 with h2 | h2
    · rw [upd_ne _ _ (Nat.ne_of_lt h2)]
      obtain ⟨b0, m1, m2, m3, m4, m5⟩ := A.new c0 h0 h2
      exact ⟨b0, List.mem_cons_of_mem _ m1, m2, m3, m4, m5⟩
    · obtain rfl : c0 = nb1 := by omega
      rw [upd_same]
      exact ⟨b, List.mem_cons_self .., hb, hk, by rw [e]; rfl, rfl⟩

theorem adopt_allP {W W' : World} {β : Be} {H : Hp} {nb k : Nat} {βk β' : Be} {Hk H' : Hp} {nb' lo : Nat} {args argsC : List Value} (ha : RVs β H nb args argsC) (R : ∀ c, c < nb → isNone (H c) = false → (β c).blk < W.heap.size) (R' : Rel Fb β' H' nb' W') (F : Foot W k βk Hk lo β' H' nb' W') :
    ∀ (rs : List DV) (vs vs' : List Value) (u : List Nat) (β1 : Be) (H1 : Hp) (nb1 : Nat) (K : List Value → Hp → Nat → Prop), Adopt Fb W W' β H nb k β' H' nb' β1 H1 nb1 u → RVs β' H' nb' vs vs' → resOkP k H' rs vs u → outK args rs H1 nb1 K →
      ∃ ws β2 H2 nb2 u2, K ws H2 nb2 ∧ Adopt Fb W W' β H nb k β' H' nb' β2 H2 nb2 u2 ∧ RVs β2 H2 nb2 ws vs' ∧ Ext β1 H1 nb1 β2 H2 nb2
  | [], vs, vs', u, β1, H1, nb1, K, A, hv, hr, hk => by
    obtain rfl : vs = [] := hr
    have : vs' = [] := List.eq_nil_of_length_eq_zero (by simpa using hv.1.symm)
    subst this
    exact ⟨[], β1, H1, nb1, u, hk, A, ⟨rfl, fun i hi => absurd hi (by simp)⟩, Ext.refl _ _ _⟩
  | d :: rs, vs, vs', u, β1, H1, nb1, K, A, hv, hr, hk => by
    cases vs with
    | nil => cases d <;> exact hr.elim
    | cons v vs =>
    cases vs' with
    | nil => have := hv.1; simp at this
    | cons v' vs' =>
    have hv0 : RV β' H' nb' v v' := by simpa using hv.2 0 (by simp)
    have hvs : RVs β' H' nb' vs vs' := ⟨by simpa using hv.1, fun i hi => by simpa using hv.2 (i + 1) (by simpa using hi)⟩
    have fin : ∀ {w : Value} {ws : List Value} {β2 : Be} {H2 : Hp} {nb2 : Nat}, RV β2 H2 nb2 w v' → RVs β2 H2 nb2 ws vs' → RVs β2 H2 nb2 (w :: ws) (v' :: vs') := fun h1 h2 =>
      ⟨by simp [h2.1], fun i hi => by
        cases i with
        | zero => simpa using h1
        | succ i => simpa using h2.2 i (by simpa using hi)⟩
    cases d with
    | v x =>
      obtain ⟨⟨hx, hf⟩, hr⟩ := hr
      obtain rfl := veqT_out hx
      obtain ⟨ws, β2, H2, nb2, u2, g1, g2, g3, g4⟩ := adopt_allP ha R R' F rs vs vs' u β1 H1 nb1 _ A hvs hr hk
      exact ⟨_, β2, H2, nb2, u2, g1, g2, fin (by rw [flat_eq hv0 hf]; exact flat_refl hf) g3, g4⟩
    | nil =>
      obtain ⟨rfl, hr⟩ := hr
      obtain ⟨ws, β2, H2, nb2, u2, g1, g2, g3, g4⟩ := adopt_allP ha R R' F rs vs vs' u β1 H1 nb1 _ A hvs hr hk
      exact ⟨_, β2, H2, nb2, u2, g1, g2, fin (by cases hv0; exact .sl0 0 0) g3, g4⟩
    | zero j =>
      simp only [resOkP] at hr
      split at hr
      case h_2 => exact hr.elim
      rename_i b' o' es' vs0 heq
      simp only [List.cons.injEq] at heq
      obtain ⟨rfl, rfl⟩ := heq
      unfold outK at hk
      split at hk
      case h_2 => exact hk.elim
      rename_i b o s ln es ej
      have hb : b < nb := by
        have hj : j < args.length := by
          rcases Nat.lt_or_ge j args.length with h | h
          · exact h
          · rw [List.getElem?_eq_none h] at ej; cases ej
        have := ha.2 j hj
        rw [List.getD_eq_getElem?_getD, ej] at this
        simp only [Option.getD_some] at this
        generalize argsC.getD j undef = y at this
        cases this with
        | slz hz => exact hz
        | sl h _ _ => cases s <;> exact h.1
      obtain ⟨a', rfl⟩ : ∃ a', v' = .slice (some a') 0 0 := by
        cases hv0 with
        | slz _ => exact ⟨_, rfl⟩
        | sl _ hr _ => exact hr.elim
      obtain ⟨ws, β2, H2, nb2, u2, g1, g2, g3, g4⟩ := adopt_allP ha R R' F rs _ vs' u β1 H1 nb1 _ A hvs hr hk
      exact ⟨_, β2, H2, nb2, u2, g1, g2, fin (.slz (Nat.lt_of_lt_of_le (Nat.lt_of_lt_of_le hb A.le) g4.le)) g3, g4⟩
    | sl es len c =>
      simp only [resOkP] at hr
      split at hr
      case h_2 => exact hr.elim
      rename_i b n len' es' vs0 heq
      simp only [List.cons.injEq] at heq
      obtain ⟨rfl, rfl⟩ := heq
      cases e : H' b <;> rw [e] at hr <;> try simp only at hr
      all_goals first | exact hr.elim | skip
      rename_i own fl n' g
      cases own <;> simp only at hr
      have hr9 := chk_out hr
      clear hr
      have h1 := hr9.1
      obtain ⟨⟨rfl, rfl, hnl, hce⟩, hr8⟩ := hr9.2
      simp only [Bool.and_eq_true, Nat.ble_eq, List.all_eq_true] at h1
      obtain ⟨⟨hkb, hu⟩, hes⟩ := h1
      obtain rfl := Nat.eq_of_beq_eq_true hes
      obtain ⟨ht, hok0, hc⟩ := celPre_out hce
      have hb : b < nb' := by
        cases hv0 with
        | slz hz => exact hz
        | sl ha _ _ => exact ha.1
      have hu' : ∀ x ∈ u, x ≠ b := fun x hx he => by
        have := hu x hx
        subst he
        simp at this
      have hok : c.ok (len' * es') := by
        have ho := R'.objs b hb
        unfold ObjOk at ho
        simp only [e] at ho
        obtain ⟨_, _, _, _, _, _, _, _, _, q⟩ := ho
        exact hok0 q hnl
      have A2 := adopt_oneP R R' F A hnl hb hkb hu' e ht hok hc
      obtain ⟨ws, β2, H2, nb2, u2, g1, g2, g3, g4⟩ := adopt_allP ha R R' F rs vs vs' (b :: u) _ _ _ _ A2 hvs hr8 hk
      refine ⟨_, β2, H2, nb2, u2, g1, g2, fin (RV.ext g4 ?_) g3, (ext_alloc _ _).trans g4⟩
      cases hv0 with
      | slz hz => exact .slz (Nat.lt_succ_self _)
      | @sl _ a' _ _ cap ha hr' hl =>
        have ha2 := ha.2
        simp only [e] at ha2
        obtain rfl := ha2.2 (by trivial)
        unfold RoomOk at hr'
        simp only [e] at hr'
        have hr' := hr' (by trivial)
        refine .sl ⟨Nat.lt_succ_self _, ?_⟩ ?_ hl
        · rw [upd_same]
          exact ⟨Nat.le_refl _, fun _ => by rw [upd_same]⟩
        · unfold RoomOk
          simp only [upd_same]
          intro _; omega

/-- **A FUNCTION IS KNOWN BY WHAT IT DOES ON ITS ARGUMENTS, IN MEMORY OF THEIR OWN.** -/
theorem deepP_sound {E : Env} (hE : EnvOk P E) {f : Nat} {fn : Func} (hf : P.funcs[f]? = some fn) {F : List DV → Option (List DV)}
    (h : ∀ ds rs, F ds = some rs → (∀ d ∈ ds, d.good) → abody E fn (inV ds 0) (inH ds 0) (inN ds 0) fun r H' _ lo => chk (Nat.ble (inN ds 0) lo) (resOkP (inN ds 0) H' rs (unret r rs.length) [] ∧ retK (unret r rs.length) fun v => v = r)) : SoundW P f (deepSem F) := by
  intro args H nb K hk Fb β W argsC R ha
  obtain ⟨ds, hk, hds⟩ := argsK_out R ha hk
  obtain ⟨rs, e, hk⟩ := hk
  · obtain ⟨β1, g1, g2⟩ := local_rel ds argsC 0 hds
    have R1 : Rel Fb β1 (inH ds 0) (inN ds 0) W := ⟨fun b hb => (g1 b (Nat.zero_le _) hb).1, fun b b' hb _ _ ho _ => (by
      obtain ⟨n, g, h3⟩ := (g1 b (Nat.zero_le _) hb).2
      rw [h3] at ho; cases ho), R.floor.none fun b hb => by
      obtain ⟨n, g, h3⟩ := (g1 b (Nat.zero_le _) hb).2
      rw [h3]; rfl⟩
    have hgood : ∀ d ∈ ds, d.good := deep_sound.good_of ds argsC hds
    refine (abody_sound hE hf _ _ _ _ (h ds rs e hgood) Fb β1 W argsC R1 g2).mono ?_
    rintro e' W' ⟨r, H', nb', lo, β', v', h1, h2, h3, h4, h5⟩
    obtain ⟨h6, h7, h8⟩ := chk_out h1
    have h6 : inN ds 0 ≤ lo := by simpa using h6
    have kp := keeps_of_foot h5 h6
    have A : Adopt Fb W W' β H nb (inN ds 0) β' H' nb' β H nb [] := ⟨Nat.le_refl _, R.keep kp, fun _ _ => ⟨rfl, rfl⟩, fun c h h' => by omega⟩
    obtain ⟨vs', k1, k2⟩ := ret_values h3 h8
    obtain ⟨ws, β2, H2, nb2, u2, m1, m2, m3, m4⟩ := adopt_allP ha (fun _ h1 h2 => R.lt h1 h2) h4 h5 rs _ vs' [] β H nb _ A k1 h7 hk
    obtain ⟨w, m5, m6⟩ := k2 m3 m1
    refine ⟨w, H2, nb2, nb, β2, v', m5, h2, m6, m2.rel, ⟨kp.size, fun j hj _ => kp.heap j hj, fun b hb => ?_, Nat.le_refl _, m4, kp.same⟩⟩
    rcases Nat.lt_or_ge b nb with h9 | h9
    · exact .inl ⟨h9, (m2.old b h9).1⟩
    · obtain ⟨b0, _, n2, n3, _, n5⟩ := m2.new b h9 hb
      right
      rw [n5]
      rcases h5.new b0 n2 with h | h
      · omega
      · exact h

end Go.Eng
