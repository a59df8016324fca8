/- A part of the interpreter of Go code, and of the proof that it says what Go does; no condition. -/
import Derived.Test.YtnnfbgonjonflaaEng10
/-! Functions that write into the one slice that they are given. -/
set_option linter.unusedSimpArgs false
set_option linter.unusedVariables false
namespace Go.Eng
variable {Fb : Nat}
variable {P : Program}

def mutArgs (j : Nat) (args : List Value) (d : DV) : List DV := (args.take j).map .v ++ d :: (args.drop (j + 1)).map .v

def DV.empty : DV → Bool
  | .sl _ n _ => Nat.beq n 0
  | _ => true

def onlyEmpty (F : List DV → Option (Cel × List DV)) (ds : List DV) : Option (List DV) := match ds.all DV.empty with | true => (match F ds with | some r => some r.2 | none => none) | false => none

/-- 'F': the cells that the slice (argument 'j') holds behind it, and the answers. -/
def mutSem (j : Nat) (F : List DV → Option (Cel × List DV)) : Sem1 := fun args H nb K =>
  match args.getD j undef with
  | .slice (some ⟨b, 0, some n⟩) len es => chk ((args.take j).all flat && (args.drop (j + 1)).all flat) (match H b with
    | .cells true _ n' _ => chk (Nat.beq n n' && Nat.beq n (len * es)) (argK H (.slice (some ⟨b, 0, some n⟩) len es) fun d => ∃ r, F (mutArgs j args d) = some r ∧ outK args r.2 (upd H b (.cells true true n r.1)) nb fun vs H' nb' => retK vs fun v => K v H' nb' (Nat.min nb b))
    | _ => False)
  | _ => deepSem (onlyEmpty F) args H nb K

theorem callM {F : List DV → Option (Cel × List DV)} {ds : List DV} {c : Cel} {rs : List DV} {X : Cel × List DV → Prop} (h : F ds = some (c, rs)) (k : X (c, rs)) : ∃ r, F ds = some r ∧ X r := ⟨_, h, k⟩

theorem inV_v (l : List Value) (ds : List DV) (b : Nat) : inV (l.map .v ++ ds) b = l ++ inV ds b := by
  induction l with
  | nil => rfl
  | cons x l ih => simp only [List.map_cons, List.cons_append, inV, ih]

theorem split_at {l : List Value} {j : Nat} (h : j < l.length) : l = l.take j ++ l.getD j undef :: l.drop (j + 1) := by
  rw [List.getD_eq_getElem?_getD, List.getElem?_eq_getElem h, Option.getD_some, List.getElem_cons_drop, List.take_append_drop]

theorem RVs.app {β : Be} {H : Hp} {nb : Nat} {l l' m m' : List Value} (h : RVs β H nb l l') (h' : RVs β H nb m m') : RVs β H nb (l ++ m) (l' ++ m') := h.append h'

theorem RVs.cons {β : Be} {H : Hp} {nb : Nat} {v v' : Value} {l l' : List Value} (h : RV β H nb v v') (h' : RVs β H nb l l') : RVs β H nb (v :: l) (v' :: l') :=
  ⟨by simp [h'.1], fun i hi => by
    cases i with
    | zero => simpa using h
    | succ i => simpa using h'.2 i (by simpa using hi)⟩

/-- **A FUNCTION THAT WRITES INTO ITS SLICE**, known by what it does on it, in memory of its own. -/
theorem mut_sound {E : Env} (hE : EnvOk P E) {f : Nat} {fn : Func} (hf : P.funcs[f]? = some fn) {j : Nat} {F : List DV → Option (Cel × List DV)}
    (h0 : ∀ ds rs, onlyEmpty F ds = some rs → (∀ d ∈ ds, d.good) → abody E fn (inV ds 0) (inH ds 0) (inN ds 0) fun r H' _ lo => chk (Nat.ble (inN ds 0) lo) (resOk (inN ds 0) H' rs (unret r rs.length) [] ∧ retK (unret r rs.length) fun v => v = r))
    (h1 : ∀ (pre post : List Value) (es len : Nat) (c c' : Cel) (rs : List DV), pre.length = j → F (pre.map .v ++ .sl es len c :: post.map .v) = some (c', rs) → DV.good (.sl es len c) →
      abody E fn (pre ++ .slice (some ⟨0, 0, some (len * es)⟩) len es :: post) (upd noH 0 (.cells true true (len * es) c)) 1 fun r H' _ _ =>
        (match H' 0 with | .cells true _ n g => n = len * es ∧ celEq n g c' | _ => False) ∧ resOk 1 H' rs (unret r rs.length) [] ∧ retK (unret r rs.length) fun v => v = r) : SoundW P f (mutSem j F) := by
  intro args H nb K hk Fb β W argsC R ha
  unfold mutSem at hk
  split at hk
  case h_2 => exact deep_sound hE hf h0 args H nb K hk Fb β W argsC R ha
  rename_i b n len es hv
  obtain ⟨hfl, hk⟩ := chk_out hk
  simp only [Bool.and_eq_true] at hfl
  have hj : j < args.length := by
    rcases Nat.lt_or_ge j args.length with h | h
    · exact h
    · rw [List.getD_eq_getElem?_getD, List.getElem?_eq_none h] at hv; cases hv
  have hj' : j < argsC.length := ha.1 ▸ hj
  cases eb : H b <;> rw [eb] at hk <;> try simp only at hk
  all_goals first | exact hk.elim | skip
  rename_i own fl n' g
  cases own
  · exact hk.elim
  have hk2 := chk_out hk
  clear hk
  obtain ⟨hn, hk⟩ := hk2
  simp only [Bool.and_eq_true] at hn
  obtain rfl := Nat.eq_of_beq_eq_true hn.1
  have hnl := Nat.eq_of_beq_eq_true hn.2
  have hrv : RV β H nb (.slice (some ⟨b, 0, some n⟩) len es) (argsC.getD j undef) := by rw [← hv]; exact ha.2 j hj
  have hb : b < nb := by
    generalize argsC.getD j undef = y at hrv
    cases hrv with
    | sl h _ _ => exact h.1
    | slz h => exact h
  have hob := R.objs b hb
  unfold ObjOk at hob
  rw [eb] at hob
  obtain ⟨C, t, fz, q1, q2, q3, q4, q5, q6, q7⟩ := hob
  -- the cells that are handed in
  have hd : ∃ c r, F (mutArgs j args (.sl es len c)) = some r ∧ (0 < es ∧ c.typed = true ∧ c.ok n ∧ ∀ o, o < n → g.at o = c.at o) ∧
      outK args r.2 (upd H b (.cells true true n r.1)) nb fun vs H' nb' => retK vs fun v => K v H' nb' (Nat.min nb b) := by
    unfold argK at hk
    simp only [eb] at hk
    have hsub : ∀ {l : List Int} , l.length = n → (l.drop 0).take (len * es) = l := fun {l} h => by rw [List.drop_zero, List.take_of_length_le (by omega)]
    cases g with
    | fn g =>
      simp only at hk
      obtain ⟨h1, hk⟩ := chk_out hk
      simp only [Bool.and_eq_true, Nat.blt_eq] at h1
      obtain ⟨l, hk, hl, hg⟩ := gather_cel _ hk
      obtain ⟨ht, r, hF, ho⟩ := chk_out hk
      exact ⟨_, r, hF, ⟨h1.2, ht, hnl ▸ celOf_ok hl, fun o ho => by rw [celOf_at (by omega), hg o (by omega)]; simp [Cel.at]⟩, ho⟩
    | ints k l =>
      simp only at hk
      have hk2 := chk_out hk
      clear hk
      obtain ⟨h1, hk⟩ := hk2
      have hl : l.length = n := q7
      obtain ⟨r, hF, ho⟩ := hk.out hl
      simp only [Bool.and_eq_true, Nat.blt_eq] at h1
      exact ⟨_, r, hF, ⟨h1.2, rfl, by show ((l.drop 0).take (len * es)).length = n; simp [hl, hnl], fun o ho => by rw [List.drop_zero, List.take_of_length_le (by omega)]⟩, ho⟩
    | strs l =>
      simp only at hk
      have hk2 := chk_out hk
      clear hk
      obtain ⟨h1, hk⟩ := hk2
      have hl : l.length = n := q7
      obtain ⟨r, hF, ho⟩ := hk.out hl
      simp only [Bool.and_eq_true, Nat.blt_eq] at h1
      exact ⟨_, r, hF, ⟨h1.2, rfl, by show ((l.drop 0).take (len * es)).length = n; simp [hl, hnl], fun o ho => by rw [List.drop_zero, List.take_of_length_le (by omega)]⟩, ho⟩
    | bools l =>
      simp only at hk
      have hk2 := chk_out hk
      clear hk
      obtain ⟨h1, hk⟩ := hk2
      have hl : l.length = n := q7
      obtain ⟨r, hF, ho⟩ := hk.out hl
      simp only [Bool.and_eq_true, Nat.blt_eq] at h1
      exact ⟨_, r, hF, ⟨h1.2, rfl, by show ((l.drop 0).take (len * es)).length = n; simp [hl, hnl], fun o ho => by rw [List.drop_zero, List.take_of_length_le (by omega)]⟩, ho⟩
  obtain ⟨c, ⟨c', rs⟩, hF, ⟨hes, hct, hcok, hcat⟩, hout⟩ := hd
  subst hnl
  clear hk hn
  let β1 : Be := fun _ => β b
  let H1 : Hp := upd noH 0 (.cells true true (len * es) c)
  have R1 : Rel Fb β1 H1 1 W := by
    refine ⟨fun x hx => ?_, fun x y hx hy hne _ _ => absurd hne (by omega), R.floor.to (Nat.le_refl _) (fun _ _ _ => rfl) fun x hx _ => .inl ⟨b, hb, by rw [eb]; rfl, rfl⟩⟩
    obtain rfl : x = 0 := by omega
    unfold ObjOk
    simp only [H1, upd_same]
    refine ⟨C, t, fz, q1, q2, q3, fun o ho => ?_, fun _ => q5 (by trivial), fun _ o _ => Cel.flat_of hct o, hcok⟩
    obtain ⟨v', r1, r2⟩ := q4 o ho
    rw [hcat o ho] at r2
    rw [flat0_eq r2 (Cel.flat_of hct o)] at r1
    exact ⟨_, r1, flat0_refl (Cel.flat_of hct o)⟩
  have hsl : RV β1 H1 1 (.slice (some ⟨0, 0, some (len * es)⟩) len es) (argsC.getD j undef) := by
    generalize argsC.getD j undef = y at hrv
    cases hrv with
    | @sl _ a' _ _ cap h hr hl =>
      have h2 := h.2
      simp only [eb] at h2
      have h3 := h2.2 (by trivial)
      subst h3
      refine .sl ⟨Nat.lt_succ_self _, ?_⟩ ?_ hl
      · simp only [H1, upd_same]
        exact ⟨Nat.le_refl _, fun _ => rfl⟩
      · unfold RoomOk at hr ⊢
        simp only [eb] at hr
        simp only [H1, upd_same]
        exact hr
    | slz h => exact .slz (Nat.lt_succ_self _)
  have eA := split_at hj
  have eC := split_at hj'
  have hpre : argsC.take j = args.take j := ext_getD (by simp [ha.1]) fun i hi => by
    have hi1 : i < j ∧ i < args.length := by
      have := hi
      rw [List.length_take] at this; omega
    have h1 := ha.2 i hi1.2
    have e1 : args.getD i undef = (args.take j).getD i undef := by simp [List.getD_eq_getElem?_getD, List.getElem?_take, hi1.1]
    have e2 : argsC.getD i undef = (argsC.take j).getD i undef := by simp [List.getD_eq_getElem?_getD, List.getElem?_take, hi1.1]
    rw [e1, e2] at h1
    exact flat_eq h1 (getD_all hfl.1 hi)
  have hpost : argsC.drop (j + 1) = args.drop (j + 1) := ext_getD (by simp [ha.1]) fun i hi => by
    have hi1 : j + 1 + i < args.length := by
      have : i < args.length - (j + 1) := by simpa using hi
      omega
    have h1 := ha.2 (j + 1 + i) hi1
    have e1 : args.getD (j + 1 + i) undef = (args.drop (j + 1)).getD i undef := by simp [List.getD_eq_getElem?_getD]
    have e2 : argsC.getD (j + 1 + i) undef = (argsC.drop (j + 1)).getD i undef := by simp [List.getD_eq_getElem?_getD]
    rw [e1, e2] at h1
    exact flat_eq h1 (getD_all hfl.2 hi)
  have hargs : RVs β1 H1 1 (args.take j ++ .slice (some ⟨0, 0, some (len * es)⟩) len es :: args.drop (j + 1)) argsC := by
    rw [eC, hpre, hpost]
    exact (flats_refl hfl.1).app (.cons hsl (flats_refl hfl.2))
  have hbody := h1 (args.take j) (args.drop (j + 1)) es len c c' rs (by simp; omega) hF ⟨hes, hct, hcok⟩
  refine (abody_sound hE hf _ _ _ _ hbody Fb β1 W argsC R1 hargs).mono ?_
  rintro e' W' ⟨r, H', nb', lo, β', v', ⟨k0, k1, k2⟩, g2, g3, g4, g5⟩
  have hnb' : 0 < nb' := g5.ext.le
  cases e0 : H' 0 <;> rw [e0] at k0 <;> try simp only at k0
  all_goals first | exact k0.elim | skip
  rename_i own0 fl0 n0 gg
  cases own0
  · exact k0.elim
  obtain ⟨rfl, hce⟩ := k0
  obtain ⟨ct, cok, cat⟩ := celEq_out hce
  have hx := g5.ext.obj 0 (Nat.lt_succ_self _)
  unfold ObjExt at hx
  simp only [H1, upd_same, e0] at hx
  have hβ0 : β' 0 = β b := hx.2 (by trivial)
  have hob' := g4.objs 0 hnb'
  unfold ObjOk at hob'
  rw [e0, hβ0] at hob'
  obtain ⟨C', t', fz', p1, p2, p3, p4, p5, p6, p7⟩ := hob'
  have hbl := R.lt hb (by rw [eb]; rfl)
  have keep : ∀ i, i < W.heap.size → i ≠ (β b).blk → W'.heap[i]? = W.heap[i]? := fun i hi hne => g5.keep i hi fun x _ hx => by
    intro he; exact hne he.symm
  -- the caller's memory behind it
  have ex2 : Ext β H nb β (upd H b (.cells true true (len * es) c')) nb := by
    refine ⟨Nat.le_refl _, fun x hx => ?_⟩
    unfold ObjExt
    by_cases e : x = b
    · subst e; rw [upd_same, eb]; exact ⟨Nat.le_refl _, fun _ => rfl⟩
    · rw [upd_ne _ _ e]; cases H x <;> simp
  have R2 : Rel Fb β (upd H b (.cells true true (len * es) c')) nb W' := by
    refine ⟨fun x hx => ?_, fun x y hx hy hne ho hn => ?_, R.floor.to g5.size (fun j hj hk => keep j hj (hk b hb (by rw [eb]; rfl)).symm) fun x hx2 ho => ?_⟩
    rotate_left
    rotate_left
    · by_cases e : x = b
      · subst e; exact .inl ⟨x, hx2, by rw [eb]; rfl, rfl⟩
      · rw [upd_ne _ _ e] at ho; exact .inl ⟨x, hx2, ho, rfl⟩
    · by_cases e : x = b
      · subst e
        unfold ObjOk
        simp only [upd_same]
        refine ⟨C', t', fz', p1, p2, p3, fun o ho => ?_, fun _ => p5 (by trivial), fun _ o _ => Cel.flat_of ct o, cok p7⟩
        obtain ⟨v', r1, r2⟩ := p4 o ho
        rw [cat o ho] at r2
        rw [flat0_eq r2 (Cel.flat_of ct o)] at r1
        exact ⟨_, r1, flat0_refl (Cel.flat_of ct o)⟩
      · cases hnx : isNone (H x) with
        | true => unfold ObjOk; rw [upd_ne _ _ e]; cases e2 : H x <;> rw [e2] at hnx <;> first | trivial | (cases hnx)
        | false =>
          have hlt := R.lt hx hnx
          have hne : (β x).blk ≠ (β b).blk := (R.inj b x hb hx (Ne.symm e) (by rw [eb]; rfl) hnx).symm
          have hk := keep _ hlt hne
          have h0 := R.objs x hx
          have h0' : ObjOk β H nb W' x := by
            unfold ObjOk at h0 ⊢
            cases e2 : H x <;> simp only [e2] at h0 ⊢
            · rw [hk]; exact h0
            · rw [hk]; exact h0
            · rename_i m nn seen
              obtain ⟨s, l, S, z1, z2, z3, E', clk, z4, z5⟩ := h0
              have hmb : m ≠ b := fun he => by subst he; rw [eb] at z3; cases z3
              have hmn : isNone (H m) = false := by cases e3 : H m <;> rw [e3] at z3 <;> first | rfl | (cases z3)
              have hmlt := R.lt z2 hmn
              have hmne : (β m).blk ≠ (β b).blk := (R.inj b m hb z2 (Ne.symm hmb) (by rw [eb]; rfl) hmn).symm
              exact ⟨s, l, S, by rw [hk]; exact z1, z2, z3, E', clk, by rw [keep _ hmlt hmne]; exact z4, z5⟩
          exact ObjOk.ext' hx ex2 (upd_ne _ _ e) rfl (fun m _ hm => ⟨upd_ne _ _ (fun he => by subst he; rw [eb] at hm; cases hm), rfl⟩) h0'
    · have ko : isOwn (H x) = true := by
        by_cases e : x = b
        · subst e; rw [eb]; rfl
        · rwa [upd_ne _ _ e] at ho
      have kn : isNone (H y) = false := by
        by_cases e : y = b
        · subst e; rw [eb]; rfl
        · rwa [upd_ne _ _ e] at hn
      exact R.inj x y hx hy hne ko kn
  have A : Adopt Fb W W' β (upd H b (.cells true true (len * es) c')) nb 1 β' H' nb' β (upd H b (.cells true true (len * es) c')) nb [] := ⟨Nat.le_refl _, R2, fun _ _ => ⟨rfl, rfl⟩, fun c h h' => by omega⟩
  have ha2 : RVs β (upd H b (.cells true true (len * es) c')) nb args argsC := ha.ext ex2
  have hlt2 : ∀ x, x < nb → isNone (upd H b (.cells true true (len * es) c') x) = false → (β x).blk < W.heap.size := fun x hx hn => by
    by_cases e : x = b
    · subst e; exact hbl
    · rw [upd_ne _ _ e] at hn; exact R.lt hx hn
  obtain ⟨vs', k4, k5⟩ := ret_values g3 k2
  obtain ⟨ws, β2, H2, nb2, u2, m1, m2, m3, m4⟩ := adopt_all ha2 hlt2 g4 g5 rs _ vs' [] β _ nb _ A k4 k1 hout
  obtain ⟨w, m5, m6⟩ := k5 m3 m1
  refine ⟨w, H2, nb2, _, β2, v', m5, g2, m6, m2.rel, ⟨g5.size, fun i hi hne => keep i hi fun he => hne b (Nat.min_le_right _ _) hb he.symm, fun x hx => ?_, Nat.min_le_left _ _, ex2.trans m4, g5.same⟩⟩
  rcases Nat.lt_or_ge x nb with h9 | h9
  · exact .inl ⟨h9, (m2.old x h9).1⟩
  · obtain ⟨b0, _, n2, n3, _, n5⟩ := m2.new x h9 hx
    right
    rw [n5]
    rcases g5.new b0 n2 with h | h
    · omega
    · exact h

end Go.Eng
