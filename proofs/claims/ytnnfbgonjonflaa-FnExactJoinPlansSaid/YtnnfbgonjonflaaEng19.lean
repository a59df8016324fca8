/- A part of the interpreter of Go code, and of the proof that it says what Go does; no condition. -/
import Derived.Test.YtnnfbgonjonflaaEng14
/-! A block written anew by a function of the library that is known by its contract. -/
set_option linter.unusedSimpArgs false
set_option linter.unusedVariables false
namespace Go.Eng
variable {Fb : Nat}
variable {P : Program}

/-- One block of its own, written anew: all else stays. -/
theorem rewrite_ok {β : Be} {H : Hp} {nb b n : Nat} {fl : Bool} {g c' : Cel} {W W' : World} (R : Rel Fb β H nb W) (hb : b < nb) (eb : H b = .cells true fl n g)
    (hct : c'.typed = true) (hcok : c'.ok n) (keep : ∀ i, i < W.heap.size → i ≠ (β b).blk → W'.heap[i]? = W.heap[i]?) (hsz : W.heap.size ≤ W'.heap.size)
    (hw : ∀ C t fz, W.heap[(β b).blk]? = some (.cells C t fz) → ∃ C', W'.heap[(β b).blk]? = some (.cells C' t fz) ∧ C'.size = C.size ∧ ∀ o, o < n → C'[o]? = some (c'.at o)) :
    Rel Fb β (upd H b (.cells true true n c')) nb W' ∧ Ext β H nb β (upd H b (.cells true true n c')) nb := by
  have hbl := R.lt hb (by rw [eb]; rfl)
  have hob := R.objs b hb
  unfold ObjOk at hob
  rw [eb] at hob
  obtain ⟨C, t, fz, q1, q2, q3, q4, q5, q6, q7⟩ := hob
  obtain ⟨C', p1, p2, p3⟩ := hw C t fz q1
  have ex2 : Ext β H nb β (upd H b (.cells true true n c')) nb := by
    refine ⟨Nat.le_refl _, fun x hx => ?_⟩
    unfold ObjExt
    by_cases e : x = b
    · subst e; rw [upd_same, eb]; exact ⟨Nat.le_refl _, fun _ => rfl⟩
    · rw [upd_ne _ _ e]; cases H x <;> simp
  refine ⟨⟨fun x hx => ?_, fun x y hx hy hne ho hn => ?_, R.floor.to hsz (fun j hj hk => keep j hj (hk b hb (by rw [eb]; rfl)).symm) fun x hx ho => ?_⟩, ex2⟩
  rotate_left
  rotate_left
  · by_cases e : x = b
    · subst e; exact .inl ⟨x, hx, by rw [eb]; rfl, rfl⟩
    · rw [upd_ne _ _ e] at ho; exact .inl ⟨x, hx, ho, rfl⟩
  · by_cases e : x = b
    · subst e
      unfold ObjOk
      simp only [upd_same]
      have q5' := q5 (by trivial)
      refine ⟨C', t, fz, p1, by rw [p2]; exact q2, by rw [p2]; exact q3, fun o ho => ?_, fun _ => ⟨q5'.1, by rw [p2]; exact q5'.2⟩, fun _ o _ => Cel.flat_of hct o, hcok⟩
      exact ⟨_, by rw [q5'.1, Nat.zero_add]; exact p3 o ho, flat0_refl (Cel.flat_of hct o)⟩
    · cases hnx : isNone (H x) with
      | true => unfold ObjOk; rw [upd_ne _ _ e]; cases e2 : H x <;> rw [e2] at hnx <;> first | trivial | (cases hnx)
      | false =>
        have hlt := R.lt hx hnx
        have hne : (β x).blk ≠ (β b).blk := (R.inj b x hb hx (Ne.symm e) (by rw [eb]; rfl) hnx).symm
        have hk := keep _ hlt hne
        have h0 := R.objs x hx
        have h0' : ObjOk β H nb W' x := by
          unfold ObjOk at h0 ⊢
          cases e2 : H x <;> simp only [e2] at h0 ⊢
          · rw [hk]; exact h0
          · rw [hk]; exact h0
          · rename_i m nn seen
            obtain ⟨s, l, S, z1, z2, z3, E', clk, z4, z5⟩ := h0
            have hmb : m ≠ b := fun he => by subst he; rw [eb] at z3; cases z3
            have hmn : isNone (H m) = false := by cases e3 : H m <;> rw [e3] at z3 <;> first | rfl | (cases z3)
            have hmlt := R.lt z2 hmn
            have hmne : (β m).blk ≠ (β b).blk := (R.inj b m hb z2 (Ne.symm hmb) (by rw [eb]; rfl) hmn).symm
            exact ⟨s, l, S, by rw [hk]; exact z1, z2, z3, E', clk, by rw [keep _ hmlt hmne]; exact z4, z5⟩
        exact ObjOk.ext' hx ex2 (upd_ne _ _ e) rfl (fun m _ hm => ⟨upd_ne _ _ (fun he => by subst he; rw [eb] at hm; cases hm), rfl⟩) h0'
  · have ko : isOwn (H x) = true := by
      by_cases e : x = b
      · subst e; rw [eb]; rfl
      · rwa [upd_ne _ _ e] at ho
    have kn : isNone (H y) = false := by
      by_cases e : y = b
      · subst e; rw [eb]; rfl
      · rwa [upd_ne _ _ e] at hn
    exact R.inj x y hx hy hne ko kn

/-- A library function on a slice of ints that has its block to itself: 'G': the cells behind it, 'm': the length of the slice that it hands back ('none': it hands nothing back). -/
def rowSem (G : List Int → List Int) (m : Option (List Int → Nat)) (top : Nat) : Sem1 := fun args H nb K =>
  match args with
  | [.slice (some ⟨b, 0, some n⟩) len es] =>
    match H b with
    | .cells true _ n' _ => chk (Nat.beq n n' && Nat.beq n len && Nat.beq es 1) (argK H (.slice (some ⟨b, 0, some n⟩) len es) fun d =>
        match d with
        | .sl 1 _ (.ints .i64 l) => chk (Nat.ble l.length top) (
            match m with
            | none => K undef (upd H b (.cells true true n (.ints .i64 (G l)))) nb (Nat.min nb b)
            | some m => K (.slice (some ⟨b, 0, some n⟩) (m l) 1) (upd H b (.cells true true n (.ints .i64 (G l)))) nb (Nat.min nb b))
        | _ => False)
    | _ => False
  | _ => False

def rowAns (m : Option (List Int → Nat)) (l : List Int) (sl : Nat → Value) : Value := match m with | none => undef | some k => sl (k l)

/-- The world behind it. -/
structure RowTo (W W' : World) (blk : Nat) (l' : List Int) : Prop where
  size : W.heap.size ≤ W'.heap.size
  keep : ∀ i, i < W.heap.size → i ≠ blk → W'.heap[i]? = W.heap[i]?
  cells : ∀ C t fz, W.heap[blk]? = some (.cells C t fz) → l'.length ≤ C.size → ∃ C', W'.heap[blk]? = some (.cells C' t fz) ∧ C'.size = C.size ∧ ∀ o, o < l'.length → C'[o]? = some (.int .i64 (l'.getD o 0))
  same : Same W W'

theorem row_sound {f : Nat} {G : List Int → List Int} {m : Option (List Int → Nat)} {top : Nat} (hG : ∀ l, (G l).length = l.length) (hm : ∀ k l, m = some k → k l ≤ l.length)
    (h : ∀ (W : World) (blk cap : Nat) (l : List Int), l.length ≤ top → l.length ≤ cap → (∀ C t fz, W.heap[blk]? = some (.cells C t fz) → ∀ o, o < l.length → C[o]? = some (.int .i64 (l.getD o 0)) ∧ ¬ (fz.1 ≤ o ∧ o < fz.2)) → (∃ C t fz, W.heap[blk]? = some (.cells C t fz)) →
      Calls P f #[.slice (some ⟨blk, 0, none⟩) l.length cap] W fun e W' => e = .returned (rowAns m l fun k => .slice (some ⟨blk, 0, none⟩) k cap) ∧ RowTo W W' blk (G l))
    (h0 : ∀ (W : World) (a : Addr), Calls P f #[.slice (some a) 0 0] W fun e W' => e = .returned (rowAns m [] fun k => .slice (some a) k 0) ∧ Keeps W W') :
    SoundW P f (rowSem G m top) := by
  intro args H nb K hk Fb β W argsC R ha
  unfold rowSem at hk
  split at hk
  case h_2 => exact hk.elim
  rename_i b n len es
  have e1 : argsC.length = 1 := ha.1.symm
  obtain ⟨v, rfl⟩ : ∃ v, argsC = [v] := List.length_eq_one_iff.mp e1
  have hv : RV β H nb (.slice (some ⟨b, 0, some n⟩) len es) v := ha.2 0 (by simp)
  cases eb : H b <;> rw [eb] at hk <;> try simp only at hk
  all_goals first | exact hk.elim | skip
  rename_i own fl n' g
  cases own
  · exact hk.elim
  have hk2 := chk_out hk
  clear hk
  obtain ⟨hn, hk⟩ := hk2
  simp only [Bool.and_eq_true] at hn
  obtain rfl := Nat.eq_of_beq_eq_true hn.1.1
  obtain rfl := Nat.eq_of_beq_eq_true hn.1.2
  obtain rfl := Nat.eq_of_beq_eq_true hn.2
  have hd : ∃ l : List Int, l.length = n ∧ (∀ o, o < n → g.at o = .int .i64 (l.getD o 0)) ∧ l.length ≤ top ∧
      K (rowAns m l fun k => .slice (some ⟨b, 0, some n⟩) k 1) (upd H b (.cells true true n (.ints .i64 (G l)))) nb (Nat.min nb b) := by
    have q7 : g.ok n := by
      have hb : b < nb := by
        cases hv with
        | sl h _ _ => exact h.1
        | slz h => exact h
      have hob := R.objs b hb
      unfold ObjOk at hob
      rw [eb] at hob
      obtain ⟨_, _, _, _, _, _, _, _, _, q7⟩ := hob
      exact q7
    unfold argK at hk
    simp only [eb] at hk
    cases g with
    | fn g =>
      simp only at hk
      obtain ⟨h1, hk1⟩ := chk_out hk
      clear hk
      obtain ⟨l, hk2, hl, hg⟩ := gather_cel _ hk1
      obtain ⟨ht, hk⟩ := chk_out hk2
      have hc : (celOf l l).ok (n * 1) := celOf_ok hl
      have hat : ∀ o, o < n → (celOf l l).at o = g o := fun o ho => by rw [celOf_at (by omega), hg o (by omega)]; simp
      revert hk hc hat
      generalize celOf l l = c
      intro hk hc hat
      split at hk
      · rename_i d _ l' e
        cases e
        obtain ⟨h2, hk3⟩ := chk_out hk
        exact ⟨l', by simpa [Cel.ok] using hc, fun o ho => by rw [show (Cel.fn g).at o = g o from rfl, ← hat o ho]; rfl, Nat.le_of_ble_eq_true h2, by unfold rowAns; revert hk3; clear hm h; cases m <;> exact id⟩
      · exact hk.elim
    | ints k l =>
      simp only at hk
      obtain ⟨h1, hk1⟩ := chk_out hk
      clear hk
      have hl : l.length = n := q7
      have hk := hk1.out (by omega)
      rw [List.drop_zero, List.take_of_length_le (by omega)] at hk
      split at hk
      · rename_i d _ l' e
        cases e
        obtain ⟨h2, hk3⟩ := chk_out hk
        exact ⟨l, hl, fun o ho => rfl, Nat.le_of_ble_eq_true h2, by unfold rowAns; revert hk3; clear hm h; cases m <;> exact id⟩
      · exact hk.elim
    | strs l =>
      simp only at hk
      obtain ⟨h1, hk1⟩ := chk_out hk
      clear hk
      have hk := hk1.out (by have : l.length = n := q7; omega)
      exact hk.elim
    | bools l =>
      simp only at hk
      obtain ⟨h1, hk1⟩ := chk_out hk
      clear hk
      have hk := hk1.out (by have : l.length = n := q7; omega)
      exact hk.elim
  obtain ⟨l, hl, hat, htop, hK⟩ := hd
  clear hk
  subst hl
  have hvc : ∀ z, RV β H nb (.slice (some ⟨b, 0, some l.length⟩) z 1) v → (b < nb ∧ ∃ a' cap, v = .slice (some a') z cap ∧ z ≤ cap ∧ AddrOk β H nb ⟨b, 0, some l.length⟩ a' ∧ RoomOk β H ⟨b, 0, some l.length⟩ 1 cap) ∨ (b < nb ∧ z = 0 ∧ ∃ a', v = .slice (some a') 0 0) := fun z hz => by
    cases hz with
    | sl h hr hl => exact .inl ⟨h.1, _, _, rfl, hl, h, hr⟩
    | slz h => exact .inr ⟨h, rfl, _, rfl⟩
  have hnb : b < nb := by rcases hvc _ hv with h | h <;> exact h.1
  have hob := R.objs b hnb
  unfold ObjOk at hob
  rw [eb] at hob
  obtain ⟨C, t, fz, q1, q2, q3, q4, q5, q6, q7⟩ := hob
  have q5' := q5 (by trivial)
  have hl2 := hG l
  rcases hvc _ hv with ⟨_, a', cap, rfl, hcap, hA, hr⟩ | ⟨_, hz, a', rfl⟩
  case inr =>
    obtain rfl : l = [] := List.eq_nil_of_length_eq_zero hz
    refine (h0 W a').mono ?_
    rintro e W' ⟨rfl, hto⟩
    obtain ⟨R2, ex2⟩ := rewrite_ok (c' := .ints .i64 (G [])) (W' := W') R hnb eb rfl hl2 (fun i hi _ => hto.heap i hi) hto.size (fun C' t' fz' hC => ⟨C', by rw [hto.heap _ (R.lt hnb (by rw [eb]; rfl))]; exact hC, rfl, fun o ho => absurd ho (by simp)⟩)
    refine ⟨_, _, _, _, β, _, hK, rfl, ?_, R2, ⟨hto.size, fun i hi hne => hto.heap i hi, fun x hx => .inl ⟨hx, rfl⟩, Nat.min_le_left _ _, ex2, hto.same⟩⟩
    unfold rowAns
    cases m with
    | none => exact .undef
    | some k =>
      have := hm k [] rfl
      simp only [List.length_nil, Nat.le_zero] at this
      show RV _ _ _ (.slice _ (k []) 1) (.slice _ (k []) 0)
      rw [this]
      exact .slz hnb
  have hans : ∀ k c', k ≤ l.length → RV β (upd H b (.cells true true l.length c')) nb (.slice (some ⟨b, 0, some l.length⟩) k 1) (.slice (some ⟨(β b).blk, 0, none⟩) k cap) := fun k c' hk => by
    refine .sl ⟨hnb, ?_⟩ ?_ (by omega)
    · simp only [upd_same]
      exact ⟨Nat.le_refl _, fun _ => by rw [q5'.1]⟩
    · unfold RoomOk at hr ⊢
      simp only [eb] at hr
      simp only [upd_same]
      exact hr
  obtain rfl : a' = ⟨(β b).blk, 0, none⟩ := by
    have h2 := hA.2
    simp only [eb] at h2
    have h3 := h2.2 (by trivial)
    rw [q5'.1] at h3
    exact h3
  have hcall := h W (β b).blk cap l htop hcap (fun C' t' fz' hC o ho => by
    rw [q1] at hC
    cases hC
    obtain ⟨v', r1, r2⟩ := q4 o ho
    rw [q5'.1, Nat.zero_add] at r1
    rw [hat o ho] at r2
    rw [flat0_eq r2 rfl] at r1
    exact ⟨r1, q5'.2 o (by omega)⟩) ⟨C, t, fz, q1⟩
  refine hcall.mono ?_
  rintro e W' ⟨rfl, hto⟩
  obtain ⟨R2, ex2⟩ := rewrite_ok (c' := .ints .i64 (G l)) R hnb eb rfl hl2 hto.keep hto.size (fun C' t' fz' hC => by
    have hsz : (G l).length ≤ C'.size := by rw [q1] at hC; cases hC; omega
    obtain ⟨C2, z1, z2, z3⟩ := hto.cells C' t' fz' hC hsz
    exact ⟨C2, z1, z2, fun o ho => z3 o (by omega)⟩)
  refine ⟨_, _, _, _, β, _, hK, rfl, ?_, R2, ⟨hto.size, fun i hi hne => hto.keep i hi fun he => hne b (Nat.min_le_right _ _) hnb he.symm, fun x hx => .inl ⟨hx, rfl⟩, Nat.min_le_left _ _, ex2, hto.same⟩⟩
  unfold rowAns
  cases m with
  | none => exact .undef
  | some k => exact hans _ _ (hm k l rfl)
end Go.Eng
