/- A part of the interpreter of Go code, and of the proof that it says what Go does; no condition. -/
import Derived.Test.YtnnfbgonjonflaaEng27
/-! Functions that read a block through a pointer; functions that call themselves; steps that several branches share. -/
set_option linter.unusedSimpArgs false
set_option linter.unusedVariables false
namespace Go.Eng
variable {Fb : Nat}
variable {P : Program}

/-- What several branches want, proved once. -/
theorem share {A G : Prop} (hm : (Unit → A) → G) (hs : A) : G := hm fun _ => hs

/-- A loop whose rounds say nothing of what stood ahead of it. -/
theorem loop_full {α : Type} {b0 : Nat} {gc : St → (St → Prop) → Prop} {body : St → (AEx → St → Prop) → Prop} {L : List (Nat × Value)} {h : Hp} {nb lo : Nat} {K : AEx → St → Prop} (lo' nb' : Nat) (F : α → List (Nat × Value)) (B : α → List (Nat × AObj)) (μ : α → Nat) (Q : α → Prop) (a0 : α)
    (hs : weakX b0 ⟨frame L, h, nb, lo⟩ ⟨frame (F a0), setH noH (B a0), nb', lo'⟩) (hq : Q a0)
    (step : ∀ K', K' = K → ∀ a, Q a → body ⟨frame (F a), setH noH (B a), nb', lo'⟩ (roundK gc (fun s3 => ∃ a', μ a' < μ a ∧ Q a' ∧ weakX b0 s3 ⟨frame (F a'), setH noH (B a'), nb', lo'⟩) K')) : loopI b0 gc body ⟨frame L, h, nb, lo⟩ K :=
  ⟨α, μ, fun a => ⟨frame (F a), setH noH (B a), nb', lo'⟩, Q, ⟨a0, hs, hq⟩, step K rfl⟩

/-- A meaning that says nothing. -/
theorem deep_none {f : Nat} {F : List DV → Option (List DV)} (h : ∀ ds, F ds = none) : SoundW P f (deepSem F) := by
  intro args H nb K hk Fb β W argsC R ha
  obtain ⟨ds, ⟨rs, e, _⟩, _⟩ := argsK_out R ha hk
  rw [h] at e; cases e

/-- A function whose first argument points to a block of 'm' cells, each of one value: these are its first arguments. It writes nothing. -/
def ptrSem (m : Nat) (F : List DV → Option (List DV)) : Sem1 := fun args H nb K =>
  match args with
  | .pointer (some ⟨b, 0, some n⟩) :: rest =>
    match H b with
    | .cells _ _ n' g => chk (Nat.beq n m && Nat.beq n' m) (gather g.at 0 m fun l => argsK H (l ++ rest) fun ds => ∃ rs, F ds = some rs ∧ outK (l ++ rest) rs H nb fun vs H' nb' => retK vs fun v => K v H' nb' nb)
    | _ => False
  | _ => False

theorem ptr_none {f m : Nat} {F : List DV → Option (List DV)} (h : ∀ ds, F ds = none) : SoundW P f (ptrSem m F) := by
  intro args H nb K hk Fb β W argsC R ha
  unfold ptrSem at hk
  split at hk
  case h_2 => exact hk.elim
  rename_i b n rest
  cases eb : H b <;> rw [eb] at hk <;> simp only at hk
  obtain ⟨h1, h2⟩ := chk_out hk
  obtain ⟨l, hl, _⟩ := gather_cel _ h2
  have key : ∀ (vs : List Value) {X : List DV → Prop}, argsK H vs X → ∃ ds, X ds := by
    intro vs
    induction vs with
    | nil => intro X hx; exact ⟨[], hx⟩
    | cons v vs ih =>
      intro X hx
      have hx1 : argK H v fun d => argsK H vs fun ds => X (d :: ds) := hx
      have one : ∀ {v : Value} {Y : DV → Prop}, argK H v Y → ∃ d, Y d := by
        intro v Y hy
        unfold argK at hy
        split at hy
        · exact ⟨_, hy⟩
        · split at hy
          case h_2 => exact hy.elim
          split at hy
          · obtain ⟨_, h3⟩ := chk_out hy
            obtain ⟨_, h4, _⟩ := gather_cel _ h3
            exact ⟨_, (chk_out h4).2⟩
          all_goals
            obtain ⟨_, h3⟩ := chk_out hy
            cases h3 with
            | whole _ k => exact ⟨_, k⟩
            | part k => exact ⟨_, k⟩
        · split at hy
          case h_2 => exact hy.elim
          split at hy
          · exact hy.elim
          all_goals exact ⟨_, (chk_out hy).2⟩
        · exact ⟨_, (chk_out hy).2⟩
      obtain ⟨d, h5⟩ := one hx1
      obtain ⟨ds, h6⟩ := ih h5
      exact ⟨_, h6⟩
  obtain ⟨ds, rs, e, _⟩ := key _ hl
  rw [h] at e; cases e

theorem ptr_sound {E : Env} (hE : EnvOk P E) {f : Nat} {fn : Func} (hf : P.funcs[f]? = some fn) {m : Nat} {F : List DV → Option (List DV)}
    (h : ∀ ds rs, F ds = some rs → (∀ d ∈ ds, d.good) → abody E fn (.pointer (some ⟨inN ds 0, 0, some m⟩) :: (inV ds 0).drop m) (upd (inH ds 0) (inN ds 0) (.cells false false m (.fn (listFn ((inV ds 0).take m))))) (inN ds 0 + 1) fun r H' _ lo => chk (Nat.ble (inN ds 0 + 1) lo) (resOk (inN ds 0 + 1) H' rs (unret r rs.length) [] ∧ retK (unret r rs.length) fun v => v = r)) : SoundW P f (ptrSem m F) := by
  intro args H nb K hk Fb β W argsC R ha
  unfold ptrSem at hk
  split at hk
  case h_2 => exact hk.elim
  rename_i b n0 rest
  cases eb : H b <;> rw [eb] at hk <;> simp only at hk
  rename_i own fl n g
  obtain ⟨h1, h2⟩ := chk_out hk
  simp only [Bool.and_eq_true, Nat.beq_eq] at h1
  obtain ⟨rfl, rfl⟩ := h1
  obtain ⟨l, hk, hl, hlg⟩ := gather_cel _ h2
  cases argsC with
  | nil => have := ha.1; simp at this
  | cons p' restC =>
  have hp : RV β H nb (.pointer (some ⟨b, 0, some n⟩)) p' := by simpa using ha.2 0 (by simp)
  have hrest : RVs β H nb rest restC := ⟨by simpa using ha.1, fun i hi => by simpa using ha.2 (i + 1) (by simpa using hi)⟩
  obtain ⟨hb, hp'⟩ : b < nb ∧ p' = .pointer (some ⟨(β b).blk, (β b).sh, none⟩) := by
    cases hp with
    | ptr h =>
      obtain ⟨h1, h2⟩ := h
      rw [eb] at h2
      exact ⟨h1, by rw [h2.2 (by trivial), Nat.add_zero]⟩
  have hob := R.objs b hb
  unfold ObjOk at hob
  rw [eb] at hob
  obtain ⟨C, t, fz, q1, q2, q3, q4, q5, q6, q7⟩ := hob
  let lC : List Value := (List.range n).map fun o => C.getD ((β b).sh + o) undef
  have hlC : lC.length = n := by simp [lC]
  have hC : ∀ o, o < n → lC.getD o undef = C.getD ((β b).sh + o) undef := fun o ho => getD_map_range _ _ _ ho
  have hcells : RVs β H nb l lC := ⟨by rw [hl, hlC], fun i hi => by
    have hi' : i < n := hl ▸ hi
    obtain ⟨v', r1, r2⟩ := q4 i hi'
    rw [hlg i hi', hC i hi', Nat.zero_add]
    have : C.getD ((β b).sh + i) undef = v' := by rw [Array.getD_eq_getD_getElem?, r1]; rfl
    rw [this]; exact r2⟩
  have hall : RVs β H nb (l ++ rest) (lC ++ restC) := hcells.app hrest
  obtain ⟨ds, hk, hds⟩ := argsK_out R hall hk
  obtain ⟨rs, e, hk⟩ := hk
  obtain ⟨β1, g1, g2⟩ := local_rel ds (lC ++ restC) 0 hds
  have hgood : ∀ d ∈ ds, d.good := deep_sound.good_of ds _ hds
  let N := inN ds 0
  let H1 : Hp := upd (inH ds 0) N (.cells false false n (.fn (listFn ((inV ds 0).take n))))
  let β2 : Be := upd β1 N (β b)
  have ex : Ext β1 (inH ds 0) N β2 H1 (N + 1) := ext_alloc _ _
  have hlen : (inV ds 0).length = n + restC.length := by rw [g2.1, List.length_append, hlC]
  have nown : ∀ x, x < N + 1 → isOwn (H1 x) = false := fun x hx => by
    by_cases hxN : x = N
    · subst hxN; simp only [H1, upd_same]; rfl
    · obtain ⟨k, gg, h3⟩ := (g1 x (Nat.zero_le _) (by omega)).2
      simp only [H1, upd_ne _ _ hxN, h3]; rfl
  have R1 : Rel Fb β2 H1 (N + 1) W := ⟨fun x hx => by
    by_cases hxN : x = N
    · subst hxN
      unfold ObjOk
      simp only [H1, β2, upd_same]
      refine ⟨C, t, fz, q1, q2, q3, fun o ho => ?_, fun h => (by cases h), fun h => (by cases h), trivial⟩
      have hi : o < (inV ds 0).length := by omega
      have h5 := (g2.2 o hi).ext ex
      have e1 : (lC ++ restC).getD o undef = C.getD ((β b).sh + o) undef := by
        rw [List.getD_eq_getElem?_getD, List.getElem?_append_left (by omega), ← List.getD_eq_getElem?_getD, hC o ho]
      have e2 : listFn ((inV ds 0).take n) o = (inV ds 0).getD o undef := by
        show ((inV ds 0).take n).getD o undef = _
        rw [List.getD_eq_getElem?_getD, List.getElem?_take_of_lt ho, ← List.getD_eq_getElem?_getD]
      refine ⟨C.getD ((β b).sh + o) undef, ?_, ?_⟩
      · obtain ⟨v', r1, r2⟩ := q4 o ho
        rw [Array.getD_eq_getD_getElem?, r1]; rfl
      · show RV _ _ _ (listFn ((inV ds 0).take n) o) _
        rw [e2, ← e1]; exact h5
    · have hx' : x < N := by omega
      exact ObjOk.ext' hx' ex (upd_ne _ _ hxN) (upd_ne _ _ hxN) (fun k hk hkk => (local_rel.not_map ds 0 k hkk).elim) (g1 x (Nat.zero_le _) hx').1,
    fun x y hx hy hne ho hn => (by rw [nown x hx] at ho; cases ho), R.floor.none nown⟩
  have hargs : RVs β2 H1 (N + 1) (.pointer (some ⟨N, 0, some n⟩) :: (inV ds 0).drop n) (p' :: restC) := by
    refine .cons ?_ ⟨by rw [List.length_drop, hlen]; omega, fun i hi => ?_⟩
    · rw [hp']
      refine .ptr ⟨Nat.lt_succ_self _, ?_⟩
      simp only [H1, β2, upd_same]
      exact ⟨Nat.le_refl _, fun _ => rfl⟩
    · rw [List.length_drop] at hi
      have h5 := (g2.2 (n + i) (by omega)).ext ex
      have e1 : (lC ++ restC).getD (n + i) undef = restC.getD i undef := by
        rw [List.getD_eq_getElem?_getD, List.getElem?_append_right (by omega), hlC, Nat.add_sub_cancel_left, ← List.getD_eq_getElem?_getD]
      have e2 : ((inV ds 0).drop n).getD i undef = (inV ds 0).getD (n + i) undef := by
        rw [List.getD_eq_getElem?_getD, List.getElem?_drop, ← List.getD_eq_getElem?_getD]
      rw [e2, ← e1]; exact h5
  refine (abody_sound hE hf _ _ _ _ (h ds rs e hgood) Fb β2 W (p' :: restC) R1 hargs).mono ?_
  rintro e' W' ⟨r, H', nb', lo, β', v', m1, m2, m3, m4, m5⟩
  obtain ⟨h6, h7, h8⟩ := chk_out m1
  have h6 : N + 1 ≤ lo := by simpa using h6
  have kp := keeps_of_foot m5 h6
  have A : Adopt Fb W W' β H nb (N + 1) β' H' nb' β H nb [] := ⟨Nat.le_refl _, R.keep kp, fun _ _ => ⟨rfl, rfl⟩, fun c h h' => by omega⟩
  obtain ⟨vs', k1, k2⟩ := ret_values m3 h8
  obtain ⟨ws, β3, H3, nb3, u3, n1, n2, n3, n4⟩ := adopt_all hall (fun _ h1 h2 => R.lt h1 h2) m4 m5 rs _ vs' [] β H nb _ A k1 h7 hk
  obtain ⟨w, n5, n6⟩ := k2 n3 n1
  refine ⟨w, H3, nb3, nb, β3, v', n5, m2, n6, n2.rel, ⟨kp.size, fun j hj _ => kp.heap j hj, fun x hx => ?_, Nat.le_refl _, n4, kp.same⟩⟩
  rcases Nat.lt_or_ge x nb with h9 | h9
  · exact .inl ⟨h9, (n2.old x h9).1⟩
  · obtain ⟨b0, _, l2, l3, _, l5⟩ := n2.new x h9 hx
    right
    rw [l5]
    rcases m5.new b0 l2 with h | h
    · omega
    · exact h

theorem gather_mono {g : Nat → Value} : ∀ (n o : Nat) {K K' : List Value → Prop}, (∀ l, K l → K' l) → gather g o n K → gather g o n K'
  | 0, _, _, _, hk, h => hk _ h
  | n + 1, o, K, K', hk, h => by
    have h1 : force (g o) fun v => gather g (o + 1) n fun l => K (v :: l) := h
    have h2 := force_out h1
    show force (g o) fun v => gather g (o + 1) n fun l => K' (v :: l)
    generalize g o = v at h1 ⊢
    cases v <;> first | exact h1.elim | exact gather_mono n (o + 1) (fun l hl => hk _ hl) h1

theorem ptr_keeps {m : Nat} {F : List DV → Option (List DV)} : KeepsSem (ptrSem m F) := by
  intro args H nb K h
  unfold ptrSem at *
  split at h
  case h_2 => exact h.elim
  rename_i b n rest
  simp only
  cases eb : H b <;> rw [eb] at h <;> simp only at h ⊢
  obtain ⟨h1, h2⟩ := chk_out h
  exact chk_intro h1 (gather_mono _ _ (fun l => argsK_mono fun ds ⟨rs, e, k⟩ => ⟨rs, e, outK_mono (fun vs H' nb' q => retK_mono (fun v q => ⟨q, Nat.le_refl _⟩) q) k⟩) h2)

def Ent.ptr {P : Program} (m f : Nat) (F : List DV → Option (List DV)) (h : Enters P f) (hs : SoundW P f (ptrSem m F)) : Ent P := ⟨f, ptrSem m F, noQ, true, h, hs, noQ_sound, fun _ => ptr_keeps⟩

end Go.Eng
