/- A part of the interpreter of Go code, and of the proof that it says what Go does; no condition. -/
import Derived.Test.YtnnfbgonjonflaaEng7
import Derived.ProofKit
set_option linter.unusedSimpArgs false
set_option linter.unusedVariables false
namespace Go.Eng
variable {Fb : Nat}
variable {P : Program}

/-! ### Functions of values without addresses -/

def optK (o : Option Value) (K : Value → Prop) : Prop := match o with | some r => K r | none => False
theorem optK_if {c : Prop} [Decidable c] {r : Value} {K : Value → Prop} (h : c) (k : K r) : optK (if c then some r else none) K := by rw [if_pos h]; exact k

def flatSem (F : List Value → Option Value) : Sem0 := fun args _ _ K => optK (F args) K

def q1 (S : Sem0) : Sem1 := fun args H nb K => S args H nb fun r => K r H nb nb

theorem q1_sound {f : Nat} {S : Sem0} (h : SoundQ P f S) : SoundW P f (q1 S) := by
  intro args H nb K hk Fb β W argsC R ha
  obtain ⟨r, h1, h2, h3⟩ := h _ _ _ _ hk
  refine (h3 Fb β W argsC R ha).mono fun e W' ⟨he, k⟩ => ⟨r, H, nb, nb, β, r, h1, he, flat_refl h2, R.keep k, ?_⟩
  exact ⟨k.size, fun j hj _ => k.heap j hj, fun b hb => .inl ⟨hb, rfl⟩, Nat.le_refl _, Ext.refl _ _ _, k.same⟩

def noH : Hp := fun _ => .none

theorem Rel.empty (W : World) (F : Floor Fb (fun _ => ⟨0, 0, 0⟩) noH 0 W) : Rel Fb (fun _ => ⟨0, 0, 0⟩) noH 0 W := ⟨fun _ h => absurd h (Nat.not_lt_zero _), fun _ _ h => absurd h (Nat.not_lt_zero _), F⟩

theorem keeps_of_foot {W W' : World} {nb nb' lo : Nat} {β β' : Be} {H H' : Hp} (F : Foot W nb β H lo β' H' nb' W') (h : nb ≤ lo) : Keeps W W' :=
  ⟨fun j hj => F.keep j hj fun b h1 h2 => absurd h2 (by omega), F.same⟩

/-- A function is known by what it does on arguments without addresses, in empty memory. -/
theorem flat_sound {E : Env} (hE : EnvOk P E) {f : Nat} {fn : Func} (hf : P.funcs[f]? = some fn) {F : List Value → Option Value}
    (h : ∀ args r, F args = some r → args.all flat = true ∧ flat r = true ∧ abody E fn args noH 0 fun r' _ _ _ => r' = r) : SoundQ P f (flatSem F) := by
  intro args H nb K hk
  unfold flatSem optK at hk
  cases e : F args with
  | none => rw [e] at hk; exact hk.elim
  | some r =>
    rw [e] at hk
    obtain ⟨h1, h2, h3⟩ := h args r e
    refine ⟨r, hk, h2, fun Fb β W argsC R ha => ?_⟩
    obtain rfl := flats_eq ha h1
    refine (abody_sound hE hf _ _ _ _ h3 Fb _ W argsC (Rel.empty W (R.floor.none fun _ h => absurd h (Nat.not_lt_zero _))) (flats_refl h1)).mono ?_
    rintro e W' ⟨r', H', nb', lo, β', v', g1, g2, g3, g4, g5⟩
    subst g1
    obtain rfl := flat_eq g3 h2
    exact ⟨g2, keeps_of_foot g5 (Nat.zero_le _)⟩

/-! ### Tables of callees -/

/-- It writes nothing. -/
def KeepsSem (S : Sem1) : Prop := ∀ args H nb K, S args H nb K → S args H nb fun r H' nb' lo' => K r H' nb' lo' ∧ nb ≤ lo'

structure Ent (P : Program) where
  f : Nat
  w : Sem1
  q : Sem0
  k : Bool
  ok : Enters P f ∧ SoundW P f w ∧ SoundQ P f q ∧ (k = true → KeepsSem w)

theorem q1_keeps {S : Sem0} (hm : ∀ args H nb (K K' : Value → Prop), (∀ r, K r → K' r) → S args H nb K → S args H nb K') : KeepsSem (q1 S) := fun args H nb K h => hm _ _ _ _ _ (fun _ h => ⟨h, Nat.le_refl _⟩) h
theorem flat_keeps {F : List Value → Option Value} : KeepsSem (q1 (flatSem F)) := q1_keeps fun args _ _ K K' h => by
  unfold flatSem optK
  cases F args with
  | none => exact id
  | some r => exact h r

def noQ : Sem0 := fun _ _ _ _ => False
def noW : Sem1 := fun _ _ _ _ => False
theorem noQ_sound {f : Nat} : SoundQ P f noQ := fun _ _ _ _ h => h.elim

def Ent.flat {P : Program} (f : Nat) (F : List Value → Option Value) (h : Enters P f) (hs : SoundQ P f (flatSem F)) : Ent P := ⟨f, q1 (flatSem F), flatSem F, true, h, q1_sound hs, hs, fun _ => flat_keeps⟩
def Ent.wide {P : Program} (f : Nat) (S : Sem1) (h : Enters P f) (hs : SoundW P f S) : Ent P := ⟨f, S, noQ, false, h, hs, noQ_sound, fun h => by cases h⟩

def lookW (P : Program) : List (Ent P) → Nat → Sem1
  | [], _ => noW
  | e :: l, g => match Nat.beq g e.f with | true => e.w | false => lookW P l g

def lookQ (P : Program) : List (Ent P) → Nat → Sem0
  | [], _ => noQ
  | e :: l, g => match Nat.beq g e.f with | true => e.q | false => lookQ P l g

theorem lookW_ok : ∀ (l : List (Ent P)) {g : Nat} {args H nb K}, lookW P l g args H nb K → Enters P g ∧ SoundW P g (lookW P l g)
  | [], _, _, _, _, _, h => h.elim
  | e :: l, g, args, H, nb, K, h => by
    unfold lookW at h ⊢
    cases eb : Nat.beq g e.f with
    | true => obtain rfl := Nat.eq_of_beq_eq_true eb; exact ⟨e.ok.1, e.ok.2.1⟩
    | false => rw [eb] at h; exact lookW_ok l h

theorem lookQ_ok : ∀ (l : List (Ent P)) {g : Nat} {args H nb K}, lookQ P l g args H nb K → Enters P g ∧ SoundQ P g (lookQ P l g)
  | [], _, _, _, _, _, h => h.elim
  | e :: l, g, args, H, nb, K, h => by
    unfold lookQ at h ⊢
    cases eb : Nat.beq g e.f with
    | true => obtain rfl := Nat.eq_of_beq_eq_true eb; exact ⟨e.ok.1, e.ok.2.2.1⟩
    | false => rw [eb] at h; exact lookQ_ok l h

/-- Whether a region that draws its order may be walked in the order of the text. -/
def lexF (ops : Array Oper) : Bool := Region.lexB .any ops

theorem lexF_ok {ops : Array Oper} (h : Region.lexB .any ops = true) : lexF ops = true := by unfold lexF; exact h

/-- .. with the last operations in their own order. -/
def lexTF (ops : Array Oper) (n : Nat) : Bool := Region.lexTailB .any ops n

theorem lexTF_ok {ops : Array Oper} {n : Nat} (h : Region.lexTailB .any ops n = true) : lexTF ops n = true := by unfold lexTF; exact h

/-- Whether a region that draws its order may be walked in an order given. -/
def drawF (T : TT) (isK : Nat → Bool) (ops : Array Oper) (l cf : List (Nat × List Nat)) : Bool := drawOkB T isK ops l cf

theorem drawF_ok {T : TT} {isK : Nat → Bool} {ops : Array Oper} {l cf : List (Nat × List Nat)} (h : drawOkB T isK ops l cf = true) : drawF T isK ops l cf = true := by unfold drawF; exact h

/-- Functions that write nothing; beyond all functions, types of slices. -/
def lookK (P : Program) (T : TT) : List (Ent P) → Nat → Bool
  | [], g => Nat.ble 1000000 g && isSl T (g - 1000000)
  | e :: l, g => match Nat.beq g e.f with | true => e.k | false => lookK P T l g

theorem lookK_ok {T : TT} : ∀ (l : List (Ent P)) {g : Nat}, lookK P T l g = true → KeepsSem (lookW P l g)
  | [], _, h => fun _ _ _ _ h => h.elim
  | e :: l, g, h => by
    unfold lookK at h
    unfold lookW
    cases eb : Nat.beq g e.f with
    | true => rw [eb] at h; exact e.ok.2.2.2 h
    | false => rw [eb] at h; exact lookK_ok l h

def mkEnv (P : Program) (T : TT) (N : Nat) (l : List (Ent P)) (live : List (Nat × List Nat) := []) (ord : List (Nat × DMode) := []) : Env := ⟨0, T, N, live, lookW P l, lookQ P l, lexF, lexTF, ord, lookK P T l, drawF T (lookK P T l)⟩

theorem mkEnv_ok {T : TT} {N : Nat} {l : List (Ent P)} {live : List (Nat × List Nat)} {ord : List (Nat × DMode)} (hT : TOk P T) (hm : P.follows .mixedOrders = true) : EnvOk P (mkEnv P T N l live ord) :=
  ⟨hT, hm, fun ops h => by unfold mkEnv at h; simp only at h; unfold lexF at h; exact h, fun ops n h => by unfold mkEnv at h; simp only at h; unfold lexTF at h; exact h, fun _ _ _ _ _ h => lookW_ok l h, fun _ _ _ _ _ h => lookQ_ok l h, fun g h => lookK_ok l h, fun ops l cf h => by unfold mkEnv at h; simp only at h; unfold drawF at h; exact h⟩

/-- A function is known by what is enough for its body. -/
theorem wide_sound {E : Env} (hE : EnvOk P E) {f : Nat} {fn : Func} (hf : P.funcs[f]? = some fn) {S : Sem1} (h : ∀ args H nb K, S args H nb K → abody E fn args H nb K) : SoundW P f S :=
  fun args H nb K hk => abody_sound hE hf args H nb K (h _ _ _ _ hk)

/-! ### A law -/

theorem law_calls {E : Env} (hE : EnvOk P E) {f : Nat} {fn : Func} (hf : P.funcs[f]? = some fn) {args argsC : List Value} {H : Hp} {nb : Nat} {β : Be} {W : World} (R : Rel Fb β H nb W) (ha : RVs β H nb args argsC)
    (h : abody E fn args H nb fun r _ _ lo => r = .bool true ∧ nb ≤ lo) : Calls P f ⟨argsC⟩ W fun e W' => e = .returned (.bool true) ∧ RowKit.Below W.heap.size W W' := by
  refine (abody_sound hE hf _ _ _ _ h Fb β W argsC R ha).mono ?_
  rintro e W' ⟨r', H', nb', lo, β', v', ⟨rfl, g1⟩, g2, g3, g4, g5⟩
  rw [bool_inv g3] at g2
  have k := keeps_of_foot g5 g1
  exact ⟨g2, k.same.os, k.same.tape, k.same.output, k.size, fun j hj => k.heap j hj⟩

/-! ### Arguments that are made of integers, bools and strings -/

def leafOk : TypeDesc → Value → Prop
  | .bool, .bool _ => True
  | .int k, .int k' n => k' = k ∧ (Lit.int k n).wf = true
  | .string, .string s => s.size ≤ maxLen
  | _, _ => False

def LeavesOk (ds : List TypeDesc) (cs : List Value) : Prop := cs.length = ds.length ∧ ∀ i, i < ds.length → leafOk (ds.getD i .invalid) (cs.getD i undef)

theorem LeavesOk.append {ds ds' : List TypeDesc} {cs cs' : List Value} (h : LeavesOk ds cs) (h' : LeavesOk ds' cs') : LeavesOk (ds ++ ds') (cs ++ cs') := by
  refine ⟨by simp [h.1, h'.1], fun i hi => ?_⟩
  rcases Nat.lt_or_ge i ds.length with h1 | h1
  · have h2 : i < cs.length := h.1.symm ▸ h1
    simpa [List.getD_eq_getElem?_getD, List.getElem?_append_left h1, List.getElem?_append_left h2] using h.2 i h1
  · have h2 : cs.length ≤ i := h.1.symm ▸ h1
    simp only [List.length_append] at hi
    simpa [List.getD_eq_getElem?_getD, List.getElem?_append_right h1, List.getElem?_append_right h2, h.1] using h'.2 (i - ds.length) (by omega)

section
variable {H : Type} {enc : TypeId × Value → H} {w : World} {base : Nat} {spare : Nat → Bool} {held : Bool}

theorem mapM_range_out {α : Type} {g : Nat → Option α} : ∀ (n : Nat) {xs : List α}, (List.range n).mapM g = some xs → ∀ i, i < n → ∃ x, g i = some x := by
  intro n xs h i hi
  have key : ∀ (l : List Nat) {xs : List α}, l.mapM g = some xs → ∀ i ∈ l, ∃ x, g i = some x := by
    intro l
    induction l with
    | nil => intro xs _ i hi; cases hi
    | cons a l ih =>
      intro xs h i hi
      simp only [List.mapM_cons, Option.bind_eq_bind, Option.bind_eq_some_iff] at h
      obtain ⟨x, h1, y, h2, _⟩ := h
      rcases List.mem_cons.1 hi with rfl | hi
      · exact ⟨x, h1⟩
      · exact ih h2 i hi
  exact key _ h i (by simpa using hi)

theorem take_split (cs : List Value) (o n : Nat) : cs.drop o = (cs.drop o).take n ++ cs.drop (o + n) := by
  rw [← List.drop_drop]; exact (List.take_append_drop n _).symm

theorem replicate_leaves {l : List TypeDesc} {cs : List Value} : ∀ (n o : Nat), (∀ i, i < n → LeavesOk l ((cs.drop ((o + i) * l.length)).take l.length)) → cs.length = (o + n) * l.length →
    LeavesOk (List.replicate n l).flatten (cs.drop (o * l.length))
  | 0, o, _, hl => by
    have : cs.drop (o * l.length) = [] := List.drop_eq_nil_of_le (by simp at hl; omega)
    rw [this]; exact ⟨rfl, fun i hi => absurd hi (by simp)⟩
  | n + 1, o, h, hl => by
    rw [take_split cs (o * l.length) l.length, List.replicate_succ, List.flatten_cons]
    refine (h 0 (by omega)).append ?_
    have h1 := replicate_leaves n (o + 1) (fun i hi => by have := h (i + 1) (by omega); rwa [show o + (i + 1) = o + 1 + i from by omega] at this) (by rw [hl]; congr 1; omega)
    rwa [Nat.add_mul, Nat.one_mul] at h1

theorem flat_trod : ∀ (f : Nat),
    (∀ t ds, flatTys P f t = some ds → ∀ (fuel : Nat) cs x, DataW.trod enc P w base spare held fuel t cs = some x → LeavesOk ds cs) ∧
    (∀ (fs : List Field) off ds, structTys P f fs off = some ds → ∀ (fuel : Nat) (cs : List Value) xs,
      fs.mapM (fun f => DataW.trod enc P w base spare held fuel f.type ((cs.drop f.offset).take (P.cellsOf f.type))) = some xs → ∃ m, LeavesOk ds m ∧ cs.drop off = m ++ cs.drop (off + ds.length)) := by
  intro f
  induction f with
  | zero => exact ⟨fun t ds h => by simp [flatTys] at h, fun fs off ds h => by simp [structTys] at h⟩
  | succ f ih =>
    obtain ⟨ih1, ih2⟩ := ih
    refine ⟨fun t ds h fuel cs x hx => ?_, fun fs off ds h fuel cs xs hx => ?_⟩
    · cases fuel with
      | zero => simp [DataW.trod] at hx
      | succ fuel =>
        unfold flatTys at h
        unfold DataW.trod at hx
        cases hu : P.underlying t with
        | none => rw [hu] at h; cases h
        | some d =>
          rw [hu] at h hx
          cases d <;> simp only at h
          all_goals first | (cases h; done) | skip
          case bool =>
            obtain rfl := Option.some.inj h
            cases cs with
            | nil => simp at hx
            | cons v tl =>
              cases tl with
              | cons _ _ => simp at hx
              | nil => cases v <;> simp at hx; exact ⟨rfl, fun i hi => by obtain rfl : i = 0 := (by simpa using hi); trivial⟩
          case int k =>
            obtain rfl := Option.some.inj h
            cases cs with
            | nil => simp at hx
            | cons v tl =>
              cases tl with
              | cons _ _ => simp at hx
              | nil =>
                cases v <;> simp at hx
                exact ⟨rfl, fun i hi => by obtain rfl : i = 0 := (by simpa using hi); exact hx.1⟩
          case string =>
            obtain rfl := Option.some.inj h
            cases cs with
            | nil => simp at hx
            | cons v tl =>
              cases tl with
              | cons _ _ => simp at hx
              | nil =>
                cases v <;> simp at hx
                exact ⟨rfl, fun i hi => by obtain rfl : i = 0 := (by simpa using hi); exact hx.1⟩
          case struct fs =>
            have hx' : (if cs.length = P.cellsOf t then (fs.toList.mapM fun f => DataW.trod enc P w base spare held fuel f.type ((cs.drop f.offset).take (P.cellsOf f.type))).map fun xs => (DataW.agg (xs.map (·.1)), xs.flatMap (·.2)) else none) = some x := by
              cases cs with
              | nil => exact hx
              | cons v tl => exact hx
            by_cases hl : cs.length = P.cellsOf t
            · rw [if_pos hl] at hx'
              obtain ⟨ys, hy, _⟩ := Option.map_eq_some_iff.1 hx'
              cases es : structTys P f fs.toList 0 with
              | none => rw [es] at h; cases h
              | some l =>
                rw [es] at h
                cases eb : Nat.beq l.length (P.cellsOf t) <;> simp only [eb, cond_true, cond_false] at h
                · cases h
                · obtain rfl := Option.some.inj h
                  have eb := Nat.eq_of_beq_eq_true eb
                  obtain ⟨m, h1, h2⟩ := ih2 _ _ _ es _ _ _ hy
                  rw [List.drop_zero, Nat.zero_add, List.drop_eq_nil_of_le (by omega), List.append_nil] at h2
                  rw [h2]; exact h1
            · rw [if_neg hl] at hx'; cases hx'
          case array n e =>
            have hx' : (if cs.length = P.cellsOf t then ((List.range n).mapM fun i => DataW.trod enc P w base spare held fuel e ((cs.drop (i * P.cellsOf e)).take (P.cellsOf e))).map fun xs => (DataW.agg (xs.map (·.1)), xs.flatMap (·.2)) else none) = some x := by
              cases cs with
              | nil => exact hx
              | cons v tl => exact hx
            by_cases hl : cs.length = P.cellsOf t
            · rw [if_pos hl] at hx'
              obtain ⟨ys, hy, _⟩ := Option.map_eq_some_iff.1 hx'
              cases es : flatTys P f e with
              | none => rw [es] at h; cases h
              | some l =>
                rw [es] at h
                cases eb : (Nat.beq l.length (P.cellsOf e) && Nat.beq (n * l.length) (P.cellsOf t)) <;> simp only [eb, cond_true, cond_false] at h
                · cases h
                · obtain rfl := Option.some.inj h
                  simp only [Bool.and_eq_true, Nat.beq_eq] at eb
                  have h1 : ∀ i, i < n → LeavesOk l ((cs.drop ((0 + i) * l.length)).take l.length) := fun i hi => by
                    obtain ⟨y, hy2⟩ := mapM_range_out _ hy i hi
                    rw [Nat.zero_add, eb.1]
                    exact ih1 _ _ es _ _ _ hy2
                  have h2 := replicate_leaves n 0 h1 (by rw [hl, ← eb.2, Nat.zero_add])
                  rwa [Nat.zero_mul, List.drop_zero] at h2
            · rw [if_neg hl] at hx'; cases hx'
    · unfold structTys at h
      cases fs with
      | nil =>
        obtain rfl := Option.some.inj h
        exact ⟨[], ⟨rfl, fun i hi => absurd hi (by simp)⟩, by simp⟩
      | cons fd fs =>
        simp only at h
        cases es : flatTys P f fd.type with
        | none => rw [es] at h; cases h
        | some l =>
          rw [es] at h
          cases eb : (Nat.beq fd.offset off && Nat.beq l.length (P.cellsOf fd.type)) <;> simp only [eb, cond_true, cond_false] at h
          · cases h
          · simp only [Bool.and_eq_true, Nat.beq_eq] at eb
            cases em : structTys P f fs (off + l.length) with
            | none => rw [em] at h; cases h
            | some m =>
              rw [em] at h
              obtain rfl := Option.some.inj h
              simp only [List.mapM_cons, Option.bind_eq_bind, Option.bind_eq_some_iff] at hx
              obtain ⟨x1, g1, x2, g2, _⟩ := hx
              have q1 := ih1 _ _ es _ _ _ g1
              obtain ⟨mm, q2, q3⟩ := ih2 _ _ _ em _ _ _ g2
              refine ⟨_, q1.append q2, ?_⟩
              rw [eb.1, ← eb.2, List.append_assoc]
              have q4 := take_split cs off l.length
              rw [q3] at q4
              rw [List.length_append, ← Nat.add_assoc]
              exact q4
end

end Go.Eng
