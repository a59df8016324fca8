/- A part of the interpreter of Go code, and of the proof that it says what Go does; no condition. -/
import Derived.Test.YtnnfbgonjonflaaEng0
import Derived.Test.YtnnfbgonjonflaaEngG
/-! The relation between the abstract and the concrete state. -/
namespace Go.Eng

structure Bl where
  blk : Nat
  sh : Nat
  csz : Nat

abbrev Be := Nat → Bl

def AddrOk (β : Be) (H : Hp) (nb : Nat) (a a' : Addr) : Prop :=
  match a with
  | ⟨b, o, some ver⟩ => b < nb ∧ match H b with
    | .cells _ _ n _ => ver ≤ n ∧ (ver = n → a' = ⟨(β b).blk, (β b).sh + o, none⟩)
    | _ => False
  | ⟨b, o, none⟩ => b < nb ∧ o = 0 ∧ match H b with
    | .iter _ _ _ => a' = ⟨(β b).blk, 0, none⟩
    | _ => False

def RoomOk (β : Be) (H : Hp) (a : Addr) (es cap : Nat) : Prop :=
  match a with
  | ⟨b, o, some ver⟩ => match H b with
    | .cells _ _ n _ => ver = n → (β b).sh + o + cap * es ≤ (β b).csz
    | _ => False
  | _ => False

def isMap : AObj → Bool
  | .map _ _ => true
  | _ => false

inductive RV (β : Be) (H : Hp) (nb : Nat) : Value → Value → Prop
  | unk (v) : RV β H nb unk v
  | bool (b) : RV β H nb (.bool b) (.bool b)
  | int (k n) : RV β H nb (.int k n) (.int k n)
  | string (s) : RV β H nb (.string s) (.string s)
  | ptr0 : RV β H nb (.pointer none) (.pointer none)
  | ptr {a a'} (h : AddrOk β H nb a a') : RV β H nb (.pointer (some a)) (.pointer (some a'))
  | sl0 (n c) : RV β H nb (.slice none n c) (.slice none n c)
  | sl {a a' len es cap} (h : AddrOk β H nb a a') (hr : RoomOk β H a es cap) (hl : len ≤ cap) : RV β H nb (.slice (some a) len es) (.slice (some a') len cap)
  | slz {a a' es} (h : a.block < nb) : RV β H nb (.slice (some a) 0 es) (.slice (some a') 0 0)
  | map0 : RV β H nb (.map none) (.map none)
  | map {r r'} (h : r < nb) (hm : isMap (H r) = true) (hb : (β r).blk = r') : RV β H nb (.map (some r)) (.map (some r'))
  | nilFunc : RV β H nb .nilFunc .nilFunc
  | nilIface : RV β H nb .nilIface .nilIface
  | func (fn) {f c f' c' : List Value} (hf : f.length = f'.length) (hf' : ∀ i, i < f.length → RV β H nb (f.getD i undef) (f'.getD i undef))
      (hc : c.length = c'.length) (hc' : ∀ i, i < c.length → RV β H nb (c.getD i undef) (c'.getD i undef)) : RV β H nb (.func fn ⟨f⟩ ⟨c⟩) (.func fn ⟨f'⟩ ⟨c'⟩)
  | iface (t) {v v'} (h : RV β H nb v v') : RV β H nb (.iface t v) (.iface t v')
  | agg {l l' : List Value} (hl : l.length = l'.length) (h : ∀ i, i < l.length → RV β H nb (l.getD i undef) (l'.getD i undef)) : RV β H nb (.agg ⟨l⟩) (.agg ⟨l'⟩)
  | tuple {l l' : List Value} (hl : l.length = l'.length) (h : ∀ i, i < l.length → RV β H nb (l.getD i undef) (l'.getD i undef)) : RV β H nb (.tuple ⟨l⟩) (.tuple ⟨l'⟩)

def RVs (β : Be) (H : Hp) (nb : Nat) (l l' : List Value) : Prop :=
  l.length = l'.length ∧ ∀ i, i < l.length → RV β H nb (l.getD i undef) (l'.getD i undef)

theorem RV.undef {β : Be} {H : Hp} {nb : Nat} : RV β H nb Go.undef Go.undef := .tuple (l := []) (l' := []) rfl (fun i h => absurd h (by simp))

/-- What was, still is: no block has shrunk; one that has not grown lies where it lay. -/
def ObjExt (β β' : Be) (b : Nat) (o o' : AObj) : Prop :=
  match o with
  | .none => True
  | .cells _ _ n _ => match o' with
    | .cells _ _ n' _ => n ≤ n' ∧ (n = n' → β' b = β b)
    | _ => False
  | .map _ _ => match o' with
    | .map _ _ => β' b = β b
    | _ => False
  | .iter _ _ _ => match o' with
    | .iter _ _ _ => β' b = β b
    | _ => False

structure Ext (β : Be) (H : Hp) (nb : Nat) (β' : Be) (H' : Hp) (nb' : Nat) : Prop where
  le : nb ≤ nb'
  obj : ∀ b, b < nb → ObjExt β β' b (H b) (H' b)

theorem Ext.refl (β : Be) (H : Hp) (nb : Nat) : Ext β H nb β H nb :=
  ⟨Nat.le_refl _, fun b _ => by unfold ObjExt; split <;> simp_all⟩

theorem Ext.trans {β β' β'' : Be} {H H' H'' : Hp} {nb nb' nb'' : Nat} (h : Ext β H nb β' H' nb') (h' : Ext β' H' nb' β'' H'' nb'') : Ext β H nb β'' H'' nb'' := by
  refine ⟨Nat.le_trans h.le h'.le, fun b hb => ?_⟩
  have h1 := h.obj b hb
  have h2 := h'.obj b (Nat.lt_of_lt_of_le hb h.le)
  unfold ObjExt at *
  cases e : H b <;> simp only [e] at h1 ⊢ <;> cases e' : H' b <;> simp only [e'] at h1 h2 <;> cases e'' : H'' b <;> simp only [e''] at h2 ⊢
  case cells.cells.cells own fl n g own' fl' n' g' own'' fl'' n'' g'' =>
    refine ⟨by omega, fun he => ?_⟩
    rw [h2.2 (by omega), h1.2 (by omega)]
  all_goals first | exact h1.elim | exact h2.elim | rw [h2, h1]

theorem AddrOk.ext {β β' : Be} {H H' : Hp} {nb nb' : Nat} (e : Ext β H nb β' H' nb') {a a' : Addr} (h : AddrOk β H nb a a') : AddrOk β' H' nb' a a' := by
  obtain ⟨b, o, s⟩ := a
  cases s with
  | none =>
    obtain ⟨h1, h2, h3⟩ := h
    refine ⟨Nat.lt_of_lt_of_le h1 e.le, h2, ?_⟩
    have := e.obj b h1
    unfold ObjExt at this
    cases eb : H b <;> simp only [eb] at h3 this
    all_goals first | exact h3.elim | skip
    cases eb' : H' b <;> simp only [eb'] at this ⊢
    all_goals first | exact this.elim | (rw [this]; exact h3)
  | some ver =>
    obtain ⟨h1, h2⟩ := h
    refine ⟨Nat.lt_of_lt_of_le h1 e.le, ?_⟩
    have := e.obj b h1
    unfold ObjExt at this
    cases eb : H b <;> simp only [eb] at h2 this
    all_goals first | exact h2.elim | skip
    cases eb' : H' b <;> simp only [eb'] at this ⊢
    all_goals first | exact this.elim | skip
    refine ⟨by omega, fun he => ?_⟩
    rw [this.2 (by omega)]
    exact h2.2 (by omega)

theorem RoomOk.ext {β β' : Be} {H H' : Hp} {nb nb' : Nat} (e : Ext β H nb β' H' nb') {a a' : Addr} {es cap : Nat} (ha : AddrOk β H nb a a') (h : RoomOk β H a es cap) : RoomOk β' H' a es cap := by
  obtain ⟨b, o, s⟩ := a
  cases s with
  | none => exact h.elim
  | some ver =>
    obtain ⟨h1, h2⟩ := ha
    have := e.obj b h1
    unfold ObjExt at this
    unfold RoomOk at h ⊢
    cases eb : H b <;> simp only [eb] at h2 this h
    all_goals first | exact h2.elim | skip
    cases eb' : H' b <;> simp only [eb'] at this ⊢
    all_goals first | exact this.elim | skip
    intro he
    rw [this.2 (by omega)]
    exact h (by omega)

theorem RV.ext {β β' : Be} {H H' : Hp} {nb nb' : Nat} (e : Ext β H nb β' H' nb') {v v' : Value} (h : RV β H nb v v') : RV β' H' nb' v v' := by
  induction h with
  | unk v => exact .unk v
  | bool b => exact .bool b
  | int k n => exact .int k n
  | string s => exact .string s
  | ptr0 => exact .ptr0
  | ptr h => exact .ptr (h.ext e)
  | sl0 n c => exact .sl0 n c
  | sl h hr hl => exact .sl (h.ext e) (hr.ext e h) hl
  | slz h => exact .slz (Nat.lt_of_lt_of_le h e.le)
  | map0 => exact .map0
  | @map r r' h hm hb =>
    have := e.obj r h
    unfold ObjExt at this
    cases eb : H r <;> rw [eb] at this hm
    all_goals try (simp [isMap] at hm; done)
    cases eb' : H' r <;> simp only [eb'] at this
    exact .map (Nat.lt_of_lt_of_le h e.le) (by simp [eb', isMap]) (by rw [this]; exact hb)
  | nilFunc => exact .nilFunc
  | nilIface => exact .nilIface
  | func fn hf _ hc _ ih1 ih2 => exact .func fn hf ih1 hc ih2
  | iface t _ ih => exact .iface t ih
  | agg hl _ ih => exact .agg hl ih
  | tuple hl _ ih => exact .tuple hl ih

theorem RVs.ext {β β' : Be} {H H' : Hp} {nb nb' : Nat} (e : Ext β H nb β' H' nb') {l l' : List Value} (h : RVs β H nb l l') : RVs β' H' nb' l l' :=
  ⟨h.1, fun i hi => (h.2 i hi).ext e⟩

/-! ### Values without an address -/

def flat : Value → Bool
  | .tuple ⟨l⟩ => l.all flat1
  | v => flat1 v

theorem getD_all {l : List Value} {p : Value → Bool} (h : l.all p = true) {i : Nat} (hi : i < l.length) : p (l.getD i undef) = true := by
  rw [List.getD_eq_getElem?_getD, List.getElem?_eq_getElem hi]
  exact List.all_eq_true.1 h _ (List.getElem_mem hi)

theorem ext_getD {l l' : List Value} (hl : l.length = l'.length) (h : ∀ i, i < l.length → l'.getD i undef = l.getD i undef) : l' = l := by
  apply List.ext_getElem hl.symm
  intro i h1 h2
  have := h i h2
  simpa [List.getD_eq_getElem?_getD, List.getElem?_eq_getElem h1, List.getElem?_eq_getElem h2] using this

theorem flat0_eq {β : Be} {H : Hp} {nb : Nat} {v v' : Value} (h : RV β H nb v v') (hf : flat0 v = true) : v' = v := by
  cases h <;> first | rfl | (simp [flat0, unk] at hf)

theorem flat1_eq {β : Be} {H : Hp} {nb : Nat} {v v' : Value} (h : RV β H nb v v') (hf : flat1 v = true) : v' = v := by
  cases h with
  | @agg l l' hl h =>
    have : l' = l := ext_getD hl fun i hi => flat0_eq (h i hi) (getD_all hf hi)
    rw [this]
  | @func _ f c f' c' h1 _ h2 _ =>
    cases f <;> cases c <;> first | (cases hf; done) | skip
    obtain rfl : f' = [] := List.eq_nil_of_length_eq_zero (by simpa using h1.symm)
    obtain rfl : c' = [] := List.eq_nil_of_length_eq_zero (by simpa using h2.symm)
    rfl
  | _ => first | rfl | (simp [flat1, flat0, unk] at hf)

theorem flat_eq {β : Be} {H : Hp} {nb : Nat} {v v' : Value} (h : RV β H nb v v') (hf : flat v = true) : v' = v := by
  cases h with
  | @tuple l l' hl h =>
    have : l' = l := ext_getD hl fun i hi => flat1_eq (h i hi) (getD_all hf hi)
    rw [this]
  | @agg l l' hl h => exact flat1_eq (.agg hl h) hf
  | @func _ f c f' c' h1 h1' h2 h2' => exact flat1_eq (.func _ h1 h1' h2 h2') hf
  | _ => first | rfl | (simp [flat, flat1, flat0, unk] at hf)

theorem flat0_refl {β : Be} {H : Hp} {nb : Nat} {v : Value} (hf : flat0 v = true) : RV β H nb v v := by
  unfold flat0 at hf
  split at hf <;> first | constructor | exact absurd hf (by simp)

theorem flat1_refl {β : Be} {H : Hp} {nb : Nat} {v : Value} (hf : flat1 v = true) : RV β H nb v v := by
  unfold flat1 at hf
  split at hf
  · exact .agg rfl fun i hi => flat0_refl (getD_all hf hi)
  · exact .func _ rfl (fun i hi => absurd hi (Nat.not_lt_zero _)) rfl (fun i hi => absurd hi (Nat.not_lt_zero _))
  · exact flat0_refl hf

theorem flat_refl {β : Be} {H : Hp} {nb : Nat} {v : Value} (hf : flat v = true) : RV β H nb v v := by
  unfold flat at hf
  split at hf
  · exact .tuple rfl fun i hi => flat1_refl (getD_all hf hi)
  · exact flat1_refl hf

theorem flats_eq {β : Be} {H : Hp} {nb : Nat} {l l' : List Value} (h : RVs β H nb l l') (hf : l.all flat = true) : l' = l :=
  ext_getD h.1 fun i hi => flat_eq (h.2 i hi) (getD_all hf hi)

theorem flats_refl {β : Be} {H : Hp} {nb : Nat} {l : List Value} (hf : l.all flat = true) : RVs β H nb l l :=
  ⟨rfl, fun _ hi => flat_refl (getD_all hf hi)⟩

/-! ### Memory -/

def MapOk (β : Be) (H : Hp) (nb : Nat) (es : List (Value × Value)) (E : Array MapEntry) (clk : Nat) : Prop :=
  E.size = es.length ∧ (∀ i, i < es.length → RV β H nb (es.getD i (undef, undef)).1 (E.getD i default).key ∧ RV β H nb (es.getD i (undef, undef)).2 (E.getD i default).val) ∧
  (∀ i, i < E.size → (E.getD i default).born = i) ∧ clk = E.size

def ObjOk (β : Be) (H : Hp) (nb : Nat) (w : World) (b : Nat) : Prop :=
  match H b with
  | .none => True
  | .cells own fl n g => ∃ C t fz, w.heap[(β b).blk]? = some (.cells C t fz) ∧ C.size = (β b).csz ∧ (β b).sh + n ≤ C.size ∧
      (∀ o, o < n → ∃ v', C[(β b).sh + o]? = some v' ∧ RV β H nb (g o) v') ∧
      (own = true → (β b).sh = 0 ∧ ∀ o, o < C.size → ¬ (fz.1 ≤ o ∧ o < fz.2)) ∧
      (fl = true → ∀ o, o < n → flat0 (g o) = true) ∧ g.ok n
  | .map fl es => ∃ E clk, w.heap[(β b).blk]? = some (.map E clk) ∧ MapOk β H nb es E clk ∧ (fl = true → ∀ i, i < es.length → flat1 (es.getD i (undef, undef)).1 = true ∧ flat1 (es.getD i (undef, undef)).2 = true)
  | .iter m n seen => ∃ since last Seen, w.heap[(β b).blk]? = some (.mapIter (some (β m).blk) since Seen last) ∧ m < nb ∧ isMap (H m) = true ∧
      ∃ E clk, w.heap[(β m).blk]? = some (.map E clk) ∧ E.size = n ∧ since = clk ∧ last = clk ∧ Seen.toList = seen.reverse ∧ ∀ i ∈ seen, i < n

def isOwn : AObj → Bool
  | .none => false
  | .cells own _ _ _ => own
  | .map _ _ => true
  | .iter _ _ _ => true

def isNone : AObj → Bool
  | .none => true
  | _ => false

/-- What is known of the variables of packages lies below 'Fb', all blocks that are the run's own lie above. -/
structure Floor (Fb : Nat) (β : Be) (H : Hp) (nb : Nat) (w : World) : Prop where
  le : Fb ≤ w.heap.size
  own : ∀ b, b < nb → isOwn (H b) = true → Fb ≤ (β b).blk
  ok : ∀ w2 : World, (∀ j, j < Fb → w2.heap[j]? = w.heap[j]?) → GLok w2

theorem Floor.to {Fb : Nat} {β β' : Be} {H H' : Hp} {nb nb' : Nat} {w w' : World} (F : Floor Fb β H nb w) (hs : w.heap.size ≤ w'.heap.size)
    (hk : ∀ j, j < w.heap.size → (∀ b, b < nb → isOwn (H b) = true → (β b).blk ≠ j) → w'.heap[j]? = w.heap[j]?)
    (hn : ∀ b, b < nb' → isOwn (H' b) = true → (∃ c, c < nb ∧ isOwn (H c) = true ∧ (β' b).blk = (β c).blk) ∨ w.heap.size ≤ (β' b).blk) : Floor Fb β' H' nb' w' := by
  obtain ⟨h1, h2, h3⟩ := F
  refine ⟨Nat.le_trans h1 hs, fun b hb ho => ?_, fun w2 h => h3 w2 fun j hj => ?_⟩
  · rcases hn b hb ho with ⟨c, hc, hco, e⟩ | h
    · rw [e]; exact h2 c hc hco
    · exact Nat.le_trans h1 h
  · rw [h j hj]
    exact hk j (Nat.lt_of_lt_of_le hj h1) fun b hb ho e => absurd (h2 b hb ho) (by omega)

theorem Floor.glok {Fb : Nat} {β : Be} {H : Hp} {nb : Nat} {w : World} (F : Floor Fb β H nb w) : GLok w := F.ok w fun _ _ => rfl

structure Rel (Fb : Nat) (β : Be) (H : Hp) (nb : Nat) (w : World) : Prop where
  objs : ∀ b, b < nb → ObjOk β H nb w b
  inj : ∀ b b', b < nb → b' < nb → b ≠ b' → isOwn (H b) = true → isNone (H b') = false → (β b).blk ≠ (β b').blk
  floor : Floor Fb β H nb w
variable {Fb : Nat}

theorem Rel.lt {β : Be} {H : Hp} {nb : Nat} {w : World} (h : Rel Fb β H nb w) {b : Nat} (hb : b < nb) (hn : isNone (H b) = false) : (β b).blk < w.heap.size := by
  have := h.objs b hb
  unfold ObjOk at this
  have key : ∀ x, w.heap[(β b).blk]? = some x → (β b).blk < w.heap.size := fun x hx => by
    rcases Nat.lt_or_ge (β b).blk w.heap.size with hlt | hge
    · exact hlt
    · rw [Array.getElem?_eq_none hge] at hx; cases hx
  cases e : H b <;> simp only [e] at this
  · simp [e, isNone] at hn
  · obtain ⟨C, t, fz, h1, _⟩ := this; exact key _ h1
  · obtain ⟨E, clk, h1, _⟩ := this; exact key _ h1
  · obtain ⟨s, l, S, h1, _⟩ := this; exact key _ h1

/-- Every block of 'w' reads in 'w'' as it did. -/
structure Same (w w' : World) : Prop where
  os : w'.os = w.os
  tape : w'.tape = w.tape
  output : w'.output = w.output

theorem Same.refl (w : World) : Same w w := ⟨rfl, rfl, rfl⟩
theorem Same.trans {a b c : World} (h : Same a b) (k : Same b c) : Same a c := ⟨k.os.trans h.os, k.tape.trans h.tape, k.output.trans h.output⟩

structure Keeps (w w' : World) : Prop where
  heap : ∀ j, j < w.heap.size → w'.heap[j]? = w.heap[j]?
  same : Same w w'

theorem Keeps.refl (w : World) : Keeps w w := ⟨fun _ _ => rfl, Same.refl w⟩

theorem Keeps.size {w w' : World} (h : Keeps w w') : w.heap.size ≤ w'.heap.size := by
  rcases Nat.lt_or_ge w'.heap.size w.heap.size with hlt | hge
  · have := h.heap w'.heap.size hlt
    rw [Array.getElem?_eq_none (Nat.le_refl _), Array.getElem?_eq_getElem hlt] at this
    cases this
  · exact hge

theorem Keeps.trans {w w' w'' : World} (h : Keeps w w') (h' : Keeps w' w'') : Keeps w w'' :=
  ⟨fun j hj => (h'.heap j (Nat.lt_of_lt_of_le hj h.size)).trans (h.heap j hj), h.same.trans h'.same⟩

theorem ObjOk.keep {β : Be} {H : Hp} {nb : Nat} {w w' : World} (k : Keeps w w') (R : Rel Fb β H nb w) {b : Nat} (hb : b < nb) : ObjOk β H nb w' b := by
  have h0 := R.objs b hb
  by_cases hn : isNone (H b) = true
  · unfold ObjOk; cases e : H b <;> simp_all [isNone]
  · have hlt := R.lt hb (by simpa using hn)
    have hk := k.heap _ hlt
    unfold ObjOk at h0 ⊢
    cases e : H b <;> simp only [e] at h0 ⊢
    · rw [hk]; exact h0
    · rw [hk]; exact h0
    · obtain ⟨s, l, S, h1, h2, h3, E, clk, h4, h5⟩ := h0
      refine ⟨s, l, S, by rw [hk]; exact h1, h2, h3, E, clk, ?_, h5⟩
      rename_i m n seen
      have := k.heap _ (R.lt h2 (by cases e2 : H m <;> simp_all [isMap, isNone]))
      rw [this]; exact h4

theorem Rel.keep {β : Be} {H : Hp} {nb : Nat} {w w' : World} (R : Rel Fb β H nb w) (k : Keeps w w') : Rel Fb β H nb w' :=
  ⟨fun _ hb => ObjOk.keep k R hb, R.inj, R.floor.to k.size (fun j hj _ => k.heap j hj) fun b hb ho => .inl ⟨b, hb, ho, rfl⟩⟩

/-- Nothing of one's own. -/
theorem Floor.none {β β' : Be} {H H' : Hp} {nb nb' : Nat} {w : World} (F : Floor Fb β H nb w) (h : ∀ b, b < nb' → isOwn (H' b) = false) : Floor Fb β' H' nb' w :=
  F.to (Nat.le_refl _) (fun _ _ _ => rfl) fun b hb ho => by rw [h b hb] at ho; cases ho

theorem Floor.start {β : Be} {H : Hp} {W : World} (h : ∀ w2 : World, (∀ j, j < W.heap.size → w2.heap[j]? = W.heap[j]?) → GLok w2) : Floor W.heap.size β H 0 W :=
  ⟨Nat.le_refl _, fun _ h => absurd h (Nat.not_lt_zero _), h⟩

end Go.Eng
