/- A part of the interpreter of Go code, and of the proof that it says what Go does; no condition. -/
import Derived.Test.YtnnfbgonjonflaaEng11
import Derived.Test.YtnnfbgonjonflaaEng14
/-! Plain facts on lists of numbers and on 64 bits; loops. -/
set_option linter.unusedSimpArgs false
set_option linter.unusedVariables false
namespace Go.Eng

theorem bcase_t {b : Bool} {X Y : Prop} (h : b = true) (k : X) : bcase b X Y := by subst h; exact k
theorem bcase_f {b : Bool} {X Y : Prop} (h : b = false) (k : Y) : bcase b X Y := by subst h; exact k
theorem bcase_dt {p : Prop} [Decidable p] {X Y : Prop} (h : p) (k : X) : bcase (decide p) X Y := bcase_t (decide_eq_true h) k
theorem bcase_df {p : Prop} [Decidable p] {X Y : Prop} (h : ¬ p) (k : Y) : bcase (decide p) X Y := bcase_f (decide_eq_false h) k

theorem wrap_small {x : Int} (h : -9223372036854775808 ≤ x ∧ x ≤ 9223372036854775807) : IntKind.i64.wrap x = x := by rw [IntKind.wrap_i64]; omega

theorem wrap_succ {i : Nat} (h : i ≤ 4611686018427387904) : IntKind.i64.wrap ((i : Int) + 1) = ((i + 1 : Nat) : Int) := by rw [wrap_small (by omega)]; rfl

/-- The first 'j' of the cells are there; the others are zero. -/
def firsts (l : List Int) (j : Nat) : List Int := (List.range l.length).map fun k => if k < j then l.getD k 0 else 0
theorem firsts_len (l : List Int) (j : Nat) : (firsts l j).length = l.length := by simp [firsts]
theorem firsts_at {l : List Int} {j k : Nat} (hk : k < l.length) : (firsts l j).getD k 0 = if k < j then l.getD k 0 else 0 := by simp [firsts, List.getD_eq_getElem?_getD, hk]
theorem firsts_put {l : List Int} {j k : Nat} {x : List Int} (hj : j + x.length ≤ l.length) (hx : ∀ i, i < x.length → x.getD i 0 = l.getD (j + i) 0) (hk : k < l.length) : (putL (firsts l j) j x).getD k 0 = (firsts l (j + x.length)).getD k 0 := by
  rw [putL_getD _ _ _ _ _ (by rw [firsts_len]; exact hj), firsts_at hk, firsts_at hk]
  by_cases h1 : j ≤ k ∧ k < j + x.length
  · rw [if_pos h1, if_pos h1.2, hx _ (by omega)]; congr 1; omega
  · rw [if_neg h1]
    by_cases h2 : k < j
    · rw [if_pos h2, if_pos (by omega)]
    · rw [if_neg h2, if_neg (by omega)]

theorem list_ext {l l' : List Int} (hl : l.length = l'.length) (h : ∀ k, k < l.length → l.getD k 0 = l'.getD k 0) : l = l' := by
  apply List.ext_getElem hl
  intro i h1 h2
  have := h i h1
  simpa [List.getD_eq_getElem?_getD, h1, h2] using this

/-! ### Loops -/

theorem weak_mk {fr : Fr} {h h' : Hp} {nb lo lo' : Nat} {L : List (Nat × Value)} (hf : frOk fr L) (hl : lo' ≤ lo) (hh : weakH nb h h') : weakS ⟨fr, h, nb, lo⟩ ⟨frame L, h', nb, lo'⟩ :=
  ⟨frOk_all hf, rfl, hl, hh⟩

/-- The first of 'n' numbers that is so, or -1. -/
def leastIdx (n : Nat) (p : Nat → Bool) : Int := match (List.range n).find? p with | some i => i | none => -1

theorem leastIdx_some {n i : Nat} {p : Nat → Bool} (hi : i < n) (hp : p i = true) (h : ∀ j, j < i → p j = false) : leastIdx n p = i := by
  unfold leastIdx
  have : (List.range n).find? p = some i := by
    rw [List.find?_range_eq_some]
    exact ⟨hp, by simpa using hi, fun j hj => by simp [h j hj]⟩
  rw [this]

theorem leastIdx_none {n : Nat} {p : Nat → Bool} (h : ∀ j, j < n → p j = false) : leastIdx n p = -1 := by
  unfold leastIdx
  have : (List.range n).find? p = none := by
    rw [List.find?_range_eq_none]
    exact fun j hj => by simp [h j hj]
  rw [this]

theorem leastIdx_ge {n : Nat} {p : Nat → Bool} : decide (leastIdx n p ≥ 0) = (List.range n).any p := by
  by_cases h : ∃ i, i < n ∧ p i = true
  · have ex : ∃ i, i < n ∧ p i = true ∧ ∀ j, j < i → p j = false := by
      obtain ⟨i, h1, h2⟩ := h
      induction i using Nat.strongRecOn with
      | _ i ih =>
        by_cases h3 : ∃ j, j < i ∧ p j = true
        · obtain ⟨j, h4, h5⟩ := h3
          exact ih j h4 (by omega) h5
        · exact ⟨i, h1, h2, fun j hj => by
            cases e : p j with
            | false => rfl
            | true => exact absurd ⟨j, hj, e⟩ h3⟩
    obtain ⟨i, h1, h2, h3⟩ := ex
    rw [leastIdx_some h1 h2 h3]
    have : (List.range n).any p = true := List.any_eq_true.2 ⟨i, by simpa using h1, h2⟩
    rw [this]; simp
  · have h' : ∀ j, j < n → p j = false := fun j hj => by
      cases e : p j with
      | false => rfl
      | true => exact absurd ⟨j, hj, e⟩ h
    rw [leastIdx_none h']
    have : (List.range n).any p = false := by
      rw [List.any_eq_false]
      exact fun j hj => by simp [h' j (by simpa using hj)]
    rw [this]; simp

theorem all_true {n : Nat} {p : Nat → Bool} (h : ∀ j, j < n → p j = true) : (List.range n).all p = true := List.all_eq_true.2 fun j hj => h j (by simpa using hj)
theorem all_false {n i : Nat} {p : Nat → Bool} (hi : i < n) (h : p i = false) : (List.range n).all p = false := by
  cases e : (List.range n).all p with
  | false => rfl
  | true => have := List.all_eq_true.1 e i (by simpa using hi); rw [h] at this; cases this
theorem all_not_any {n : Nat} {p : Nat → Bool} : (List.range n).all p = !(List.range n).any fun i => !p i := by simp [List.all_eq_not_any_not]


theorem getD_last' (l : List Int) (x : Int) : (l ++ [x]).getD l.length 0 = x := by simp [List.getD_eq_getElem?_getD]

theorem drop_getD {l : List Int} {i : Nat} (h : i < l.length) : l.drop i = l.getD i 0 :: l.drop (i + 1) := by
  rw [List.drop_eq_getElem_cons h, List.getD_eq_getElem?_getD, List.getElem?_eq_getElem h]; rfl

/-- A body is walked with what comes behind it under a name. -/
theorem body_intro {E E' : Env} {c : Code} {cur : Nat} {s : St} {K : AEx → St → Prop} (h : bodyOk E c = true) (k : ∀ K', K' = K → awp E' c cur s K') : bodyOk E c = true ∧ awp E' c cur s K := ⟨h, k K rfl⟩
theorem kout {K' K : AEx → St → Prop} {e : AEx} {s : St} (h : K' = K) (k : K e s) : K' e s := by rw [h]; exact k

/-- A callee that answers in one of two ways. -/
theorem callB {α : Type} {c : Prop} [Decidable c] {A B : Option α} {X : α → Prop} (h1 : c → ∃ rs, A = some rs ∧ X rs) (h2 : ¬ c → ∃ rs, B = some rs ∧ X rs) : ∃ rs, (if c then A else B) = some rs ∧ X rs := by
  by_cases h : c
  · rw [if_pos h]; exact h1 h
  · rw [if_neg h]; exact h2 h
theorem callBN {α : Type} {c : Prop} [Decidable c] {A B : Option α} {X : α → Prop} (h : ¬ c) (k : ∃ rs, B = some rs ∧ X rs) : ∃ rs, (if c then A else B) = some rs ∧ X rs := by
  rw [if_neg h]; exact k
theorem callBP {α : Type} {c : Prop} [Decidable c] {A B : Option α} {X : α → Prop} (h : c) (k : ∃ rs, A = some rs ∧ X rs) : ∃ rs, (if c then A else B) = some rs ∧ X rs := by
  rw [if_pos h]; exact k

def Ent.mut {P : Program} (f j : Nat) (F : List DV → Option (Cel × List DV)) (h : Enters P f) (hs : SoundW P f (mutSem j F)) : Ent P := .wide f (mutSem j F) h hs

theorem abody_nb {E : Env} {fn : Func} {args : List Value} {h : Hp} {nb nb' : Nat} {K : Value → Hp → Nat → Nat → Prop} (e : nb = nb') (k : abody E fn args h nb' K) : abody E fn args h nb K := by subst e; exact k

/-! ### A loop, by the slots and blocks that it changes -/

def lookF : List (Nat × Value) → Nat → Option Value
  | [], _ => none
  | (k, v) :: l, d => match Nat.beq d k with | true => some v | false => lookF l d

/-- The slots of 'L', those of 'M' said anew. -/
def setF (M : List (Nat × Value)) : List (Nat × Value) → List (Nat × Value)
  | [] => []
  | (d, v) :: L => (d, match lookF M d with | some w => w | none => v) :: setF M L

def setH (h : Hp) : List (Nat × AObj) → Hp
  | [] => h
  | (b, o) :: l => upd (setH h l) b o

def startF (L : List (Nat × Value)) : List (Nat × Value) → Prop
  | [] => True
  | (d, v) :: M => veq (frame L d) v ∧ startF L M

def startH (h : Hp) : List (Nat × AObj) → Prop
  | [] => True
  | (b, o) :: l => oObj (h b) o ∧ startH h l

theorem lookF_in {M : List (Nat × Value)} {L : List (Nat × Value)} (h : startF L M) {d : Nat} {w : Value} (e : lookF M d = some w) : frame L d = w := by
  induction M with
  | nil => cases e
  | cons x M ih =>
    obtain ⟨k, v⟩ := x
    unfold lookF at e
    cases hb : Nat.beq d k with
    | true =>
      rw [hb] at e
      obtain rfl := Option.some.inj e
      rw [Nat.eq_of_beq_eq_true hb]
      exact veq_out h.1
    | false => rw [hb] at e; exact ih h.2 e

theorem frame_setF {M : List (Nat × Value)} : ∀ (L : List (Nat × Value)) (k : Nat), frame (setF M L) k = unk ∨ (∃ w, lookF M k = some w ∧ frame (setF M L) k = w) ∨ frame (setF M L) k = frame L k
  | [], k => .inl rfl
  | (d, v) :: L, k => by
    show upd (frame (setF M L)) d _ k = unk ∨ (∃ w, lookF M k = some w ∧ upd (frame (setF M L)) d _ k = w) ∨ upd (frame (setF M L)) d _ k = upd (frame L) d v k
    by_cases e : k = d
    · subst e
      simp only [upd_same]
      cases h : lookF M k with
      | none => exact .inr (.inr rfl)
      | some w => exact .inr (.inl ⟨w, rfl, rfl⟩)
    · simp only [upd_ne _ _ e]; exact frame_setF L k

theorem setH_at {h : Hp} : ∀ {l : List (Nat × AObj)}, startH h l → ∀ b, wObj (h b) (setH h l b)
  | [], _, b => .inl rfl
  | (d, o) :: l, hs, b => by
    show wObj (h b) (upd (setH h l) d o b)
    by_cases e : b = d
    · subst e; rw [upd_same]; exact .inr hs.1
    · rw [upd_ne _ _ e]; exact setH_at hs.2 b

theorem weakH_all {h h' : Hp} (hh : ∀ b, wObj (h b) (h' b)) : ∀ n, weakH n h h'
  | 0 => trivial
  | n + 1 => ⟨hh n, weakH_all hh n⟩

theorem weak_start {L M : List (Nat × Value)} {B : List (Nat × AObj)} {h : Hp} {nb lo lo' : Nat} {b0 : Nat} (hl : lo' ≤ lo) (hf : startF L M) (hb : startH h B) : weakX b0 ⟨frame L, h, nb, lo⟩ ⟨frame (setF M L), setH h B, nb, lo'⟩ := by
  refine .inl ⟨fun k => ?_, rfl, hl, weakH_all (setH_at hb) nb⟩
  rcases frame_setF (M := M) L k with h | ⟨w, h1, h2⟩ | h
  · exact .inl h
  · rw [h2]; exact .inr (lookF_in hf h1)
  · exact .inr h.symm

theorem frR_at {ρ : Nat → Nat} {h' : Hp} {nb' : Nat} {fr : Fr} : ∀ {L : List (Nat × Value)}, frR ρ h' nb' fr L → ∀ k, frame L k = unk ∨ (idsIn h' nb' (frame L k) = true ∧ fr k = ren ρ (frame L k))
  | [], _, _ => .inl rfl
  | (d, v) :: l, h, k => by
    show upd (frame l) d v k = unk ∨ (idsIn h' nb' (upd (frame l) d v k) = true ∧ fr k = ren ρ (upd (frame l) d v k))
    by_cases e : k = d
    · subst e; rw [upd_same]; exact .inr ⟨h.1.1, veq_out h.1.2⟩
    · rw [upd_ne _ _ e]; exact frR_at h.2 k

/-- The end of a round: blocks from 'b0' on may be forgotten, or named anew. -/
theorem round_end {b0 : Nat} {fr : Fr} {L' : List (Nat × Value)} {h h' : Hp} {nb nb' lo lo' : Nat} (R : List (Nat × Nat)) (hr : renOk R b0 nb nb' = true) (hl : lo' ≤ lo) (hh : heapR b0 (renF R) h h' nb' nb') (hf : frR (renF R) h' nb' fr L') :
    weakX b0 ⟨fr, h, nb, lo⟩ ⟨frame L', h', nb', lo'⟩ := .inr ⟨R, hr, hl, hh, frR_at hf⟩

/-- **A LOOP**: 'F', 'B': the slots and the blocks that change, by a parameter; 'Q': what holds of it; 'μ' falls. -/
theorem loop_at {α : Type} {b0 : Nat} {gc : St → (St → Prop) → Prop} {body : St → (AEx → St → Prop) → Prop} {L : List (Nat × Value)} {h : Hp} {nb lo : Nat} {K : AEx → St → Prop} (lo' : Nat) (F : α → List (Nat × Value)) (B : α → List (Nat × AObj)) (μ : α → Nat) (Q : α → Prop) (a0 : α)
    (hl : lo' ≤ lo) (hf : startF L (F a0)) (hb : startH h (B a0)) (hq : Q a0)
    (step : ∀ K', K' = K → ∀ a, Q a → body ⟨frame (setF (F a) L), setH h (B a), nb, lo'⟩ fun e s2 => match e with
      | .normal => gc s2 fun s3 => ∃ a', μ a' < μ a ∧ Q a' ∧ weakX b0 s3 ⟨frame (setF (F a') L), setH h (B a'), nb, lo'⟩
      | .exit i => K' (.exit i) s2
      | .ret => K' .ret s2) : loopI b0 gc body ⟨frame L, h, nb, lo⟩ K :=
  ⟨α, μ, fun a => ⟨frame (setF (F a) L), setH h (B a), nb, lo'⟩, Q, ⟨a0, weak_start hl hf hb, hq⟩, step K rfl⟩

/-- .. with a block more, that stands for one that the loop makes anew, round by round. -/
theorem loop_ren {α : Type} {b0 : Nat} {gc : St → (St → Prop) → Prop} {body : St → (AEx → St → Prop) → Prop} {L : List (Nat × Value)} {h : Hp} {nb lo : Nat} {K : AEx → St → Prop} (lo' nb' : Nat) (R : List (Nat × Nat)) (F : α → List (Nat × Value)) (B : α → List (Nat × AObj)) (μ : α → Nat) (Q : α → Prop) (a0 : α)
    (hs : weakX b0 ⟨frame L, h, nb, lo⟩ ⟨frame (setF (F a0) L), setH h (B a0), nb', lo'⟩) (hq : Q a0)
    (step : ∀ K', K' = K → ∀ a, Q a → body ⟨frame (setF (F a) L), setH h (B a), nb', lo'⟩ fun e s2 => match e with
      | .normal => gc s2 fun s3 => ∃ a', μ a' < μ a ∧ Q a' ∧ weakX b0 s3 ⟨frame (setF (F a') L), setH h (B a'), nb', lo'⟩
      | .exit i => K' (.exit i) s2
      | .ret => K' .ret s2) : loopI b0 gc body ⟨frame L, h, nb, lo⟩ K :=
  ⟨α, μ, fun a => ⟨frame (setF (F a) L), setH h (B a), nb', lo'⟩, Q, ⟨a0, hs, hq⟩, step K rfl⟩

end Go.Eng
