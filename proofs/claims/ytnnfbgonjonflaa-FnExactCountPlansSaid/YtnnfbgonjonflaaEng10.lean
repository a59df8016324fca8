/- A part of the interpreter of Go code, and of the proof that it says what Go does; no condition. -/
import Derived.Test.YtnnfbgonjonflaaEng9
/-! Functions that read slices of plain values and answer with fresh ones. -/
set_option linter.unusedSimpArgs false
set_option linter.unusedVariables false
namespace Go.Eng
variable {Fb : Nat}
variable {P : Program}

/-- What a function is given, or answers: a value without an address, no slice, or a slice of plain cells. -/
inductive DV where
  | v (x : Value)
  | nil
  | sl (es len : Nat) (c : Cel)
  | zero (j : Nat)     -- an answer: no cell, no room; 'j': the argument that it was cut from

def Cel.typed : Cel → Bool
  | .fn _ => false
  | _ => true

theorem Cel.flat_of {c : Cel} (h : c.typed = true) (k : Nat) : flat0 (c.at k) = true := by
  cases c <;> first | (cases h; done) | rfl

/-- A whole list, or a part of it. -/
inductive WholeK {α : Type} (o m n : Nat) (l : List α) (K : List α → Prop) : Prop
  | whole (h : o = 0 ∧ m = n) (k : K l)
  | part (k : K ((l.drop o).take m))

theorem WholeK.out {α : Type} {o m n : Nat} {l : List α} {K : List α → Prop} (hl : l.length = n) (h : WholeK o m n l K) : K ((l.drop o).take m) := by
  cases h with
  | whole h k =>
    obtain ⟨rfl, rfl⟩ := h
    rw [List.drop_zero, List.take_of_length_le (by omega)]
    exact k
  | part k => exact k

theorem WholeK.mono {α : Type} {o m n : Nat} {l : List α} {K K' : List α → Prop} (hk : ∀ l, K l → K' l) (h : WholeK o m n l K) : WholeK o m n l K' := by
  cases h with
  | whole h k => exact .whole h (hk _ k)
  | part k => exact .part (hk _ k)

def argK (H : Hp) (y : Value) (K : DV → Prop) : Prop :=
  match y with
  | .slice none 0 0 => K .nil
  | .slice (some ⟨b, o, some ver⟩) len es =>
    match H b with
    | .cells _ _ n g =>
      match g with
      | .fn g => chk (Nat.beq n ver && Nat.ble (o + len * es) n && Nat.blt 0 es) (gather g o (len * es) fun l => chk (celOf l l).typed (K (.sl es len (celOf l l))))
      | .ints k l => chk (Nat.beq n ver && Nat.ble (o + len * es) n && Nat.blt 0 es) (WholeK o (len * es) n l fun l' => K (.sl es len (.ints k l')))
      | .strs l => chk (Nat.beq n ver && Nat.ble (o + len * es) n && Nat.blt 0 es) (WholeK o (len * es) n l fun l' => K (.sl es len (.strs l')))
      | .bools l => chk (Nat.beq n ver && Nat.ble (o + len * es) n && Nat.blt 0 es) (WholeK o (len * es) n l fun l' => K (.sl es len (.bools l')))
    | _ => False
  | .slice (some ⟨b, _, none⟩) 0 es =>
    match H b with
    | .cells _ _ _ g =>
      match g with
      | .fn _ => False
      | .ints k _ => chk (Nat.blt 0 es) (K (.sl es 0 (.ints k [])))
      | .strs _ => chk (Nat.blt 0 es) (K (.sl es 0 (.strs [])))
      | .bools _ => chk (Nat.blt 0 es) (K (.sl es 0 (.bools [])))
    | _ => False
  | y => chk (flat y) (K (.v y))

def argsK (H : Hp) : List Value → (List DV → Prop) → Prop
  | [], K => K []
  | y :: ys, K => argK H y fun d => argsK H ys fun ds => K (d :: ds)

def Cel.len : Cel → Nat
  | .fn _ => 0
  | .ints _ l => l.length
  | .strs l => l.length
  | .bools l => l.length

def outK (args : List Value) : List DV → Hp → Nat → (List Value → Hp → Nat → Prop) → Prop
  | [], H, nb, K => K [] H nb
  | .v x :: rs, H, nb, K => outK args rs H nb fun vs H' nb' => K (x :: vs) H' nb'
  | .nil :: rs, H, nb, K => outK args rs H nb fun vs H' nb' => K (.slice none 0 0 :: vs) H' nb'
  | .sl es len c :: rs, H, nb, K => outK args rs (upd H nb (.cells true true (len * es) c)) (nb + 1) fun vs H' nb' => K (.slice (some ⟨nb, 0, some (len * es)⟩) len es :: vs) H' nb'
  | .zero j :: rs, H, nb, K => match args[j]? with
    | some (.slice (some ⟨b, o, _⟩) _ es) => outK args rs H nb fun vs H' nb' => K (.slice (some ⟨b, o, none⟩) 0 es :: vs) H' nb'
    | _ => False

def retK (vs : List Value) (K : Value → Prop) : Prop :=
  match vs with
  | [v] => K v
  | vs => K (.tuple ⟨vs⟩)

def deepSem (F : List DV → Option (List DV)) : Sem1 := fun args H nb K =>
  argsK H args fun ds => ∃ rs, F ds = some rs ∧ outK args rs H nb fun vs H' nb' => retK vs fun v => K v H' nb' nb

theorem callD {F : List DV → Option (List DV)} {ds rs : List DV} {X : List DV → Prop} (h : F ds = some rs) (k : X rs) : ∃ rs, F ds = some rs ∧ X rs := ⟨rs, h, k⟩

/-! The arguments in memory of their own. -/

def inV : List DV → Nat → List Value
  | [], _ => []
  | .v x :: ds, b => x :: inV ds b
  | .nil :: ds, b => .slice none 0 0 :: inV ds b
  | .sl es len c :: ds, b => .slice (some ⟨b, 0, some (len * es)⟩) len es :: inV ds (b + 1)
  | .zero _ :: ds, b => inV ds b

def inH : List DV → Nat → Hp
  | [], _ => noH
  | .v _ :: ds, b => inH ds b
  | .nil :: ds, b => inH ds b
  | .sl es len c :: ds, b => upd (inH ds (b + 1)) b (.cells false true (len * es) c)
  | .zero _ :: ds, b => inH ds b

def inN : List DV → Nat → Nat
  | [], b => b
  | .v _ :: ds, b => inN ds b
  | .nil :: ds, b => inN ds b
  | .sl _ _ _ :: ds, b => inN ds (b + 1)
  | .zero _ :: ds, b => inN ds b

theorem inN_le : ∀ (ds : List DV) (b : Nat), b ≤ inN ds b
  | [], b => Nat.le_refl _
  | .v _ :: ds, b => inN_le ds b
  | .nil :: ds, b => inN_le ds b
  | .sl _ _ _ :: ds, b => Nat.le_trans (Nat.le_succ _) (inN_le ds (b + 1))
  | .zero _ :: ds, b => inN_le ds b

/-- What is known of an argument. -/
def DV.good : DV → Prop
  | .v x => flat x = true
  | .nil => True
  | .sl es len c => 0 < es ∧ c.typed = true ∧ c.ok (len * es)
  | .zero _ => False

/-- One argument, in its place. -/
def ArgOk (β : Be) (H : Hp) (nb : Nat) (W : World) (d : DV) (v' : Value) : Prop :=
  match d with
  | .v x => flat x = true ∧ v' = x
  | .nil => v' = .slice none 0 0
  | .sl es len c => 0 < es ∧ c.typed = true ∧ c.ok (len * es) ∧ ∃ bl : Bl, ∃ C t fz, W.heap[bl.blk]? = some (.cells C t fz) ∧ C.size = bl.csz ∧ bl.sh + len * es ≤ C.size ∧
      (∀ o, o < len * es → C[bl.sh + o]? = some (c.at o)) ∧
      ((∃ cap, v' = .slice (some ⟨bl.blk, bl.sh, none⟩) len cap ∧ len ≤ cap ∧ bl.sh + cap * es ≤ bl.csz) ∨ (len = 0 ∧ ∃ a', v' = .slice (some a') 0 0))
  | .zero _ => False

theorem sl_place {β : Be} {H : Hp} {nb : Nat} {W : World} (R : Rel Fb β H nb W) {b o ver len es n : Nat} {own fl : Bool} {g : Cel} {v' : Value} (hy : RV β H nb (.slice (some ⟨b, o, some ver⟩) len es) v') (e : H b = .cells own fl n g)
    (hv : n = ver) (hle : o + len * es ≤ n) (he : 0 < es) {c : Cel} (ht : c.typed = true) (hok : c.ok (len * es)) (hc : ∀ k, k < len * es → g.at (o + k) = c.at k) : ArgOk β H nb W (.sl es len c) v' := by
  have hb : b < nb := by
    cases hy with
    | slz hz => exact hz
    | sl ha _ _ => exact ha.1
  have ho := R.objs b hb
  unfold ObjOk at ho
  simp only [e] at ho
  obtain ⟨C, t, fz, q1, q2, q3, q4, q5, q6⟩ := ho
  refine ⟨he, ht, hok, ⟨(β b).blk, (β b).sh + o, (β b).csz⟩, C, t, fz, q1, q2, by simp only; omega, fun k hk => ?_, ?_⟩
  · obtain ⟨v', r1, r2⟩ := q4 (o + k) (by omega)
    rw [hc k hk] at r2
    rw [flat0_eq r2 (Cel.flat_of ht k)] at r1
    rw [Nat.add_assoc]; exact r1
  · cases hy with
    | slz hz => exact .inr ⟨rfl, _, rfl⟩
    | @sl _ a' _ _ cap ha hr hl =>
      have ha2 := ha.2
      simp only [e] at ha2
      have := ha2.2 hv.symm
      subst this
      refine .inl ⟨cap, rfl, hl, ?_⟩
      unfold RoomOk at hr
      simp only [e] at hr
      exact hr hv.symm

theorem gather_cel {g : Nat → Value} {o : Nat} : ∀ (n : Nat) {K : List Value → Prop}, gather g o n K → ∃ l, K l ∧ l.length = n ∧ ∀ k, k < n → l.getD k undef = g (o + k) := by
  intro n K h
  obtain ⟨l, h1, h2, h3⟩ := gather_out _ _ h
  exact ⟨l, h1, h2, h3⟩

theorem argK_out {β : Be} {H : Hp} {nb : Nat} {W : World} (R : Rel Fb β H nb W) {y v' : Value} {K : DV → Prop} (hy : RV β H nb y v') (h : argK H y K) : ∃ d, K d ∧ ArgOk β H nb W d v' := by
  unfold argK at h
  split at h
  · exact ⟨_, h, by cases hy; rfl⟩
  · rename_i b o ver len es
    cases e : H b <;> rw [e] at h <;> simp only at h
    rename_i own fl n g
    cases g <;> simp only at h
    all_goals
      obtain ⟨h1, h2⟩ := chk_out h
      simp only [Bool.and_eq_true, Nat.beq_eq, Nat.ble_eq, Nat.blt_eq] at h1
      obtain ⟨⟨c1, c2⟩, c3⟩ := h1
    case fn g =>
      obtain ⟨l, g1, g2, g3⟩ := gather_cel _ h2
      obtain ⟨g4, g5⟩ := chk_out g1
      exact ⟨_, g5, sl_place R hy e c1 c2 c3 g4 (celOf_ok g2) (fun k hk => by rw [celOf_at (by omega), g3 k hk]; rfl)⟩
    case ints k l =>
      have := R
      exact ⟨_, h2.out (cel_ok (g := .ints k l) R hy e), sl_place R hy e c1 c2 c3 rfl (Cel.sub_ok (c := .ints k l) (cel_ok R hy e) c2) (fun j hj => (Cel.sub_at (c := .ints k l) hj).symm)⟩
    case strs l => exact ⟨_, h2.out (cel_ok (g := .strs l) R hy e), sl_place R hy e c1 c2 c3 rfl (Cel.sub_ok (c := .strs l) (cel_ok R hy e) c2) (fun j hj => (Cel.sub_at (c := .strs l) hj).symm)⟩
    case bools l => exact ⟨_, h2.out (cel_ok (g := .bools l) R hy e), sl_place R hy e c1 c2 c3 rfl (Cel.sub_ok (c := .bools l) (cel_ok R hy e) c2) (fun j hj => (Cel.sub_at (c := .bools l) hj).symm)⟩
  · rename_i b o es
    obtain ⟨hb, a', rfl⟩ : b < nb ∧ ∃ a', v' = .slice (some a') 0 0 := by
      cases hy with
      | slz hz => exact ⟨hz, _, rfl⟩
      | sl ha hr _ => exact hr.elim
    have ho := R.objs b hb
    unfold ObjOk at ho
    cases e : H b <;> rw [e] at h ho <;> try simp only at h
    all_goals first | exact h.elim | skip
    obtain ⟨C, t, fz, q1, q2, _⟩ := ho
    rename_i own fl n g _
    cases g <;> try simp only at h
    all_goals first | exact h.elim | skip
    all_goals
      obtain ⟨h1, h2⟩ := chk_out h
      refine ⟨_, h2, by simpa using h1, rfl, by simp [Cel.ok], ⟨(β b).blk, 0, (β b).csz⟩, C, t, fz, q1, q2, by simp, fun o ho => by simp at ho, .inr ⟨rfl, _, rfl⟩⟩
  · obtain ⟨h1, h2⟩ := chk_out h
    exact ⟨_, h2, h1, flat_eq hy h1⟩
where
  cel_ok {β : Be} {H : Hp} {nb : Nat} {W : World} (R : Rel Fb β H nb W) {b o ver len es n : Nat} {own fl : Bool} {g : Cel} {v' : Value} (hy : RV β H nb (.slice (some ⟨b, o, some ver⟩) len es) v') (e : H b = .cells own fl n g) : g.ok n := by
    have hb : b < nb := by
      cases hy with
      | slz hz => exact hz
      | sl ha _ _ => exact ha.1
    have ho := R.objs b hb
    unfold ObjOk at ho
    simp only [e] at ho
    obtain ⟨_, _, _, _, _, _, _, _, _, q⟩ := ho
    exact q

def ArgsOk (β : Be) (H : Hp) (nb : Nat) (W : World) : List DV → List Value → Prop
  | [], [] => True
  | d :: ds, v :: vs => ArgOk β H nb W d v ∧ ArgsOk β H nb W ds vs
  | _, _ => False

theorem argsK_out {β : Be} {H : Hp} {nb : Nat} {W : World} (R : Rel Fb β H nb W) : ∀ {ys vs' : List Value} {K : List DV → Prop}, RVs β H nb ys vs' → argsK H ys K → ∃ ds, K ds ∧ ArgsOk β H nb W ds vs'
  | [], vs', K, hy, h => by
    have : vs' = [] := List.eq_nil_of_length_eq_zero (by simpa using hy.1.symm)
    subst this
    exact ⟨[], h, trivial⟩
  | y :: ys, vs', K, hy, h => by
    cases vs' with
    | nil => have := hy.1; simp at this
    | cons v vs' =>
      have hy0 : RV β H nb y v := by simpa using hy.2 0 (by simp)
      have hys : RVs β H nb ys vs' := ⟨by simpa using hy.1, fun i hi => by simpa using hy.2 (i + 1) (by simpa using hi)⟩
      obtain ⟨d, h1, h2⟩ := argK_out R hy0 h
      obtain ⟨ds, h3, h4⟩ := argsK_out R hys h1
      exact ⟨d :: ds, h3, h2, h4⟩

/-- The arguments, in memory of their own. -/
theorem local_rel {β : Be} {H : Hp} {nb : Nat} {W : World} : ∀ (ds : List DV) (vs : List Value) (b : Nat), ArgsOk β H nb W ds vs →
    ∃ β1 : Be, (∀ c, b ≤ c → c < inN ds b → ObjOk β1 (inH ds b) (inN ds b) W c ∧ ∃ n g, inH ds b c = .cells false true n g) ∧ RVs β1 (inH ds b) (inN ds b) (inV ds b) vs
  | [], [], b, _ => ⟨fun _ => ⟨0, 0, 0⟩, fun c h1 h2 => by simp only [inN] at h2; omega, rfl, fun i hi => absurd hi (by simp [inV])⟩
  | [], _ :: _, _, h => h.elim
  | _ :: _, [], _, h => by cases h
  | d :: ds, v :: vs, b, h => by
    obtain ⟨h1, h2⟩ := h
    cases d with
    | zero j => exact h1.elim
    | v x =>
      obtain ⟨β1, g1, g2⟩ := local_rel ds vs b h2
      refine ⟨β1, g1, by simp [inV, g2.1], fun i hi => ?_⟩
      obtain ⟨hf, rfl⟩ := h1
      cases i with
      | zero => simpa [inV] using flat_refl hf
      | succ i => exact g2.2 i (by simpa [inV] using hi)
    | nil =>
      obtain ⟨β1, g1, g2⟩ := local_rel ds vs b h2
      refine ⟨β1, g1, by simp [inV, g2.1], fun i hi => ?_⟩
      have h1 : v = .slice none 0 0 := h1
      subst h1
      cases i with
      | zero => simpa [inV] using RV.sl0 0 0
      | succ i => exact g2.2 i (by simpa [inV] using hi)
    | sl es len c =>
      obtain ⟨β1, g1, g2⟩ := local_rel ds vs (b + 1) h2
      obtain ⟨he, ht, hok, bl, C, t, fz, q1, q2, q3, q4, q5⟩ := h1
      have hN : inN (.sl es len c :: ds) b = inN ds (b + 1) := rfl
      have hlt : b < inN ds (b + 1) := inN_le ds (b + 1)
      have ex : Ext β1 (inH ds (b + 1)) (inN ds (b + 1)) (upd β1 b bl) (inH (.sl es len c :: ds) b) (inN ds (b + 1)) := by
        refine ⟨Nat.le_refl _, fun c0 hc0 => ?_⟩
        by_cases e : c0 = b
        · subst e
          rw [show inH ds (c0 + 1) c0 = .none from inH_low ds (c0 + 1) c0 (Nat.lt_succ_self _)]
          trivial
        · unfold ObjExt
          rw [show inH (.sl es len c :: ds) b c0 = inH ds (b + 1) c0 from upd_ne _ _ e, upd_ne _ _ e]
          cases inH ds (b + 1) c0 <;> simp
      refine ⟨upd β1 b bl, fun c0 h0 h3 => ?_, by simp [inV, g2.1], fun i hi => ?_⟩
      · by_cases e : c0 = b
        · subst e
          refine ⟨?_, _, _, upd_same _ _ _⟩
          unfold ObjOk
          simp only [inH, upd_same]
          exact ⟨C, t, fz, q1, q2, q3, fun o ho => ⟨_, q4 o ho, flat0_refl (Cel.flat_of ht o)⟩, fun h => (by cases h), fun _ o _ => Cel.flat_of ht o, hok⟩
        · obtain ⟨g3, n, g, g4⟩ := g1 c0 (by omega) h3
          have e1 : inH (.sl es len c :: ds) b c0 = inH ds (b + 1) c0 := upd_ne _ _ e
          refine ⟨ObjOk.ext' (nb := inN ds (b + 1)) h3 ex e1 (upd_ne _ _ e) (fun m hm hmm => ?_) g3, n, g, by rw [e1]; exact g4⟩
          exact (not_map ds (b + 1) m hmm).elim
      · cases i with
        | zero =>
          show RV _ _ _ (.slice (some ⟨b, 0, some (len * es)⟩) len es) v
          rcases q5 with ⟨cap, rfl, hl, hr⟩ | ⟨rfl, a', rfl⟩
          · refine .sl ⟨hlt, ?_⟩ ?_ hl
            · simp only [inH, upd_same]
              exact ⟨Nat.le_refl _, fun _ => rfl⟩
            · unfold RoomOk
              simp only [inH, upd_same]
              intro _; omega
          · exact .slz hlt
        | succ i =>
          exact (g2.2 i (by simpa [inV] using hi)).ext ex
where
  inH_low : ∀ (ds : List DV) (b c : Nat), c < b → inH ds b c = .none
    | [], _, _, _ => rfl
    | .v _ :: ds, b, c, h => inH_low ds b c h
    | .nil :: ds, b, c, h => inH_low ds b c h
    | .zero _ :: ds, b, c, h => inH_low ds b c h
    | .sl _ _ _ :: ds, b, c, h => by
      simp only [inH]
      rw [upd_ne _ _ (by omega)]
      exact inH_low ds (b + 1) c (by omega)
  not_map : ∀ (ds : List DV) (b m : Nat), isMap (inH ds b m) = true → False
    | [], _, _, h => by cases h
    | .v _ :: ds, b, c, h => not_map ds b c h
    | .nil :: ds, b, c, h => not_map ds b c h
    | .zero _ :: ds, b, c, h => not_map ds b c h
    | .sl _ _ _ :: ds, b, c, h => by
      simp only [inH] at h
      by_cases e : c = b
      · subst e; rw [upd_same] at h; cases h
      · rw [upd_ne _ _ e] at h; exact not_map ds (b + 1) c h

/-- The cells are those. -/
def celEq (n : Nat) (g c : Cel) : Prop :=
  match c with
  | .fn _ => False
  | .ints k l => match g with
    | .ints k' l' => chk (decide (k' = k)) (l' = l)
    | g => l.length = n ∧ ∀ i, i < n → g.at i = .int k (l.getD i 0)
  | .strs l => match g with
    | .strs l' => l' = l
    | g => l.length = n ∧ ∀ i, i < n → g.at i = .string (l.getD i .empty)
  | .bools l => match g with
    | .bools l' => l' = l
    | g => l.length = n ∧ ∀ i, i < n → g.at i = .bool (l.getD i false)

theorem celEq_out {n : Nat} {g c : Cel} (h : celEq n g c) : c.typed = true ∧ (g.ok n → c.ok n) ∧ ∀ i, i < n → g.at i = c.at i := by
  unfold celEq at h
  cases c with
  | fn f => exact h.elim
  | ints k l =>
    cases g with
    | ints k' l' =>
      simp only at h
      have hc := chk_out h
      have h1 := of_decide_eq_true hc.1
      have h2 := hc.2
      subst h1 h2
      exact ⟨rfl, id, fun _ _ => rfl⟩
    | _ => exact ⟨rfl, fun _ => h.1, h.2⟩
  | strs l =>
    cases g with
    | strs l' => simp only at h; subst h; exact ⟨rfl, id, fun _ _ => rfl⟩
    | _ => exact ⟨rfl, fun _ => h.1, h.2⟩
  | bools l =>
    cases g with
    | bools l' => simp only at h; subst h; exact ⟨rfl, id, fun _ _ => rfl⟩
    | _ => exact ⟨rfl, fun _ => h.1, h.2⟩

/-- What a run must answer with, to be said to answer with 'rs'; 'k': the first block that is fresh. -/
def resOk (k : Nat) (H' : Hp) : List DV → List Value → List Nat → Prop
  | [], vs, _ => vs = []
  | .v x :: rs, vs, u => match vs with
    | v :: vs => (veqT v x ∧ flat x = true) ∧ resOk k H' rs vs u
    | [] => False
  | .nil :: rs, vs, u => match vs with
    | v :: vs => v = .slice none 0 0 ∧ resOk k H' rs vs u
    | [] => False
  | .sl es len c :: rs, vs, u => match vs with
    | .slice (some ⟨b, 0, some n⟩) len' es' :: vs => match H' b with
      | .cells true _ n' g => chk (Nat.ble k b && u.all (fun x => !Nat.beq x b) && Nat.beq es' es) ((len' = len ∧ n = n' ∧ n' = len' * es' ∧ celEq n' g c) ∧ resOk k H' rs vs (b :: u))
      | _ => False
    | _ => False
  | .zero _ :: rs, vs, u => match vs with
    | .slice (some ⟨_, _, none⟩) 0 _ :: vs => resOk k H' rs vs u
    | _ => False

def unret (r : Value) (n : Nat) : List Value :=
  match n with
  | 1 => [r]
  | _ => match r with | .tuple ⟨vs⟩ => vs | _ => []

structure Adopt (Fb : Nat) (W W' : World) (β H nb) (k : Nat) (β' : Be) (H' : Hp) (nb' : Nat) (β1 : Be) (H1 : Hp) (nb1 : Nat) (u : List Nat) : Prop where
  le : nb ≤ nb1
  rel : Rel Fb β1 H1 nb1 W'
  old : ∀ c, c < nb → β1 c = (β : Be) c ∧ H1 c = (H : Hp) c
  new : ∀ c, nb ≤ c → c < nb1 → ∃ b, b ∈ u ∧ b < nb' ∧ k ≤ b ∧ isOwn (H' b) = true ∧ β1 c = β' b

theorem adopt_one {W W' : World} {β : Be} {H : Hp} {nb k : Nat} {βk β' : Be} {Hk H' : Hp} {nb' lo : Nat} {β1 : Be} {H1 : Hp} {nb1 : Nat} {u : List Nat} (R : ∀ c, c < nb → isNone (H c) = false → (β c).blk < W.heap.size) (R' : Rel Fb β' H' nb' W') (F : Foot W k βk Hk lo β' H' nb' W')
    (A : Adopt Fb W W' β H nb k β' H' nb' β1 H1 nb1 u) {b n : Nat} {fl : Bool} {g c : Cel} (hb : b < nb') (hk : k ≤ b) (hu : ∀ x ∈ u, x ≠ b) (e : H' b = .cells true fl n g) (ht : c.typed = true) (hok : c.ok n) (hc : ∀ j, j < n → g.at j = c.at j) :
    Adopt Fb W W' β H nb k β' H' nb' (upd β1 nb1 (β' b)) (upd H1 nb1 (.cells true true n c)) (nb1 + 1) (b :: u) := by
  have ex := ext_alloc (β := β1) (H := H1) (nb := nb1) (β' b) (.cells true true n c)
  have hsz : W.heap.size ≤ (β' b).blk := by
    rcases F.new b hb with h | h
    · omega
    · exact h
  have key : ∀ c0, c0 < nb1 → isNone (H1 c0) = false → (β1 c0).blk ≠ (β' b).blk := fun c0 h0 hnn => by
    rcases Nat.lt_or_ge c0 nb with h1 | h1
    · obtain ⟨e1, e2⟩ := A.old c0 h1
      have := R c0 h1 (by rw [← e2]; exact hnn)
      rw [e1]; omega
    · obtain ⟨b0, m1, m2, _, m3, m4⟩ := A.new c0 h1 h0
      rw [m4]
      exact R'.inj b0 b m2 hb (hu b0 m1) m3 (by rw [e]; rfl)
  refine ⟨Nat.le_succ_of_le A.le, ⟨fun c0 h0 => ?_, fun c0 c1 h0 h1 hne ho hn => ?_, A.rel.floor.le, fun c0 h0 ho => by
    rcases Nat.lt_or_ge c0 nb1 with h1 | h1
    · rw [upd_ne _ _ (Nat.ne_of_lt h1)] at ho ⊢; exact A.rel.floor.own c0 h1 ho
    · obtain rfl : c0 = nb1 := by omega
      rw [upd_same]; exact R'.floor.own b hb (by rw [e]; rfl), A.rel.floor.ok⟩, fun c0 h0 => ?_, fun c0 h0 h1 => ?_⟩
  · rcases Nat.lt_or_ge c0 nb1 with h1 | h1
    · have hn : c0 ≠ nb1 := Nat.ne_of_lt h1
      exact ObjOk.ext' h1 ex (upd_ne _ _ hn) (upd_ne _ _ hn) (fun m hm _ => ⟨upd_ne _ _ (Nat.ne_of_lt hm), upd_ne _ _ (Nat.ne_of_lt hm)⟩) (A.rel.objs c0 h1)
    · obtain rfl : c0 = nb1 := by omega
      have h2 := R'.objs b hb
      unfold ObjOk at h2 ⊢
      simp only [e, upd_same] at h2 ⊢
      obtain ⟨C, t, fz, q1, q2, q3, q4, q5, q6, q7⟩ := h2
      refine ⟨C, t, fz, q1, q2, q3, fun o ho => ?_, q5, fun _ o _ => Cel.flat_of ht o, hok⟩
      obtain ⟨v', r1, r2⟩ := q4 o ho
      rw [hc o ho] at r2
      rw [flat0_eq r2 (Cel.flat_of ht o)] at r1
      exact ⟨_, r1, flat0_refl (Cel.flat_of ht o)⟩
  · rcases Nat.lt_or_ge c0 nb1 with h2 | h2
    · rw [upd_ne _ _ (Nat.ne_of_lt h2)] at ho ⊢
      rcases Nat.lt_or_ge c1 nb1 with h3 | h3
      · rw [upd_ne _ _ (Nat.ne_of_lt h3)] at hn ⊢
        exact A.rel.inj c0 c1 h2 h3 hne ho hn
      · obtain rfl : c1 = nb1 := by omega
        rw [upd_same]
        exact key c0 h2 (by cases e2 : H1 c0 <;> simp_all [isOwn, isNone])
    · obtain rfl : c0 = nb1 := by omega
      have h3 : c1 < c0 := by omega
      rw [upd_ne _ _ (Nat.ne_of_lt h3)] at hn ⊢
      rw [upd_same]
      exact (key c1 h3 hn).symm
  · have : c0 ≠ nb1 := by have := A.le; omega
    rw [upd_ne _ _ this, upd_ne _ _ this]; exact A.old c0 h0
  · rcases Nat.lt_or_ge c0 nb1 with h2 | h2
    · rw [upd_ne _ _ (Nat.ne_of_lt h2)]
      obtain ⟨b0, m1, m2, m3, m4, m5⟩ := A.new c0 h0 h2
      exact ⟨b0, List.mem_cons_of_mem _ m1, m2, m3, m4, m5⟩
    · obtain rfl : c0 = nb1 := by omega
      rw [upd_same]
      exact ⟨b, List.mem_cons_self .., hb, hk, by rw [e]; rfl, rfl⟩

theorem adopt_all {W W' : World} {β : Be} {H : Hp} {nb k : Nat} {βk β' : Be} {Hk H' : Hp} {nb' lo : Nat} {args argsC : List Value} (ha : RVs β H nb args argsC) (R : ∀ c, c < nb → isNone (H c) = false → (β c).blk < W.heap.size) (R' : Rel Fb β' H' nb' W') (F : Foot W k βk Hk lo β' H' nb' W') :
    ∀ (rs : List DV) (vs vs' : List Value) (u : List Nat) (β1 : Be) (H1 : Hp) (nb1 : Nat) (K : List Value → Hp → Nat → Prop), Adopt Fb W W' β H nb k β' H' nb' β1 H1 nb1 u → RVs β' H' nb' vs vs' → resOk k H' rs vs u → outK args rs H1 nb1 K →
      ∃ ws β2 H2 nb2 u2, K ws H2 nb2 ∧ Adopt Fb W W' β H nb k β' H' nb' β2 H2 nb2 u2 ∧ RVs β2 H2 nb2 ws vs' ∧ Ext β1 H1 nb1 β2 H2 nb2
  | [], vs, vs', u, β1, H1, nb1, K, A, hv, hr, hk => by
    obtain rfl : vs = [] := hr
    have : vs' = [] := List.eq_nil_of_length_eq_zero (by simpa using hv.1.symm)
    subst this
    exact ⟨[], β1, H1, nb1, u, hk, A, ⟨rfl, fun i hi => absurd hi (by simp)⟩, Ext.refl _ _ _⟩
  | d :: rs, vs, vs', u, β1, H1, nb1, K, A, hv, hr, hk => by
    cases vs with
    | nil => cases d <;> exact hr.elim
    | cons v vs =>
    cases vs' with
    | nil => have := hv.1; simp at this
    | cons v' vs' =>
    have hv0 : RV β' H' nb' v v' := by simpa using hv.2 0 (by simp)
    have hvs : RVs β' H' nb' vs vs' := ⟨by simpa using hv.1, fun i hi => by simpa using hv.2 (i + 1) (by simpa using hi)⟩
    have fin : ∀ {w : Value} {ws : List Value} {β2 : Be} {H2 : Hp} {nb2 : Nat}, RV β2 H2 nb2 w v' → RVs β2 H2 nb2 ws vs' → RVs β2 H2 nb2 (w :: ws) (v' :: vs') := fun h1 h2 =>
      ⟨by simp [h2.1], fun i hi => by
        cases i with
        | zero => simpa using h1
        | succ i => simpa using h2.2 i (by simpa using hi)⟩
    cases d with
    | v x =>
      obtain ⟨⟨hx, hf⟩, hr⟩ := hr
      obtain rfl := veqT_out hx
      obtain ⟨ws, β2, H2, nb2, u2, g1, g2, g3, g4⟩ := adopt_all ha R R' F rs vs vs' u β1 H1 nb1 _ A hvs hr hk
      exact ⟨_, β2, H2, nb2, u2, g1, g2, fin (by rw [flat_eq hv0 hf]; exact flat_refl hf) g3, g4⟩
    | nil =>
      obtain ⟨rfl, hr⟩ := hr
      obtain ⟨ws, β2, H2, nb2, u2, g1, g2, g3, g4⟩ := adopt_all ha R R' F rs vs vs' u β1 H1 nb1 _ A hvs hr hk
      exact ⟨_, β2, H2, nb2, u2, g1, g2, fin (by cases hv0; exact .sl0 0 0) g3, g4⟩
    | zero j =>
      simp only [resOk] at hr
      split at hr
      case h_2 => exact hr.elim
      rename_i b' o' es' vs0 heq
      simp only [List.cons.injEq] at heq
      obtain ⟨rfl, rfl⟩ := heq
      unfold outK at hk
      split at hk
      case h_2 => exact hk.elim
      rename_i b o s ln es ej
      have hb : b < nb := by
        have hj : j < args.length := by
          rcases Nat.lt_or_ge j args.length with h | h
          · exact h
          · rw [List.getElem?_eq_none h] at ej; cases ej
        have := ha.2 j hj
        rw [List.getD_eq_getElem?_getD, ej] at this
        simp only [Option.getD_some] at this
        generalize argsC.getD j undef = y at this
        cases this with
        | slz hz => exact hz
        | sl h _ _ => cases s <;> exact h.1
      obtain ⟨a', rfl⟩ : ∃ a', v' = .slice (some a') 0 0 := by
        cases hv0 with
        | slz _ => exact ⟨_, rfl⟩
        | sl _ hr _ => exact hr.elim
      obtain ⟨ws, β2, H2, nb2, u2, g1, g2, g3, g4⟩ := adopt_all ha R R' F rs _ vs' u β1 H1 nb1 _ A hvs hr hk
      exact ⟨_, β2, H2, nb2, u2, g1, g2, fin (.slz (Nat.lt_of_lt_of_le (Nat.lt_of_lt_of_le hb A.le) g4.le)) g3, g4⟩
    | sl es len c =>
      simp only [resOk] at hr
      split at hr
      case h_2 => exact hr.elim
      rename_i b n len' es' vs0 heq
      simp only [List.cons.injEq] at heq
      obtain ⟨rfl, rfl⟩ := heq
      cases e : H' b <;> rw [e] at hr <;> try simp only at hr
      all_goals first | exact hr.elim | skip
      rename_i own fl n' g
      cases own <;> simp only at hr
      have hr9 := chk_out hr
      clear hr
      have h1 := hr9.1
      obtain ⟨⟨rfl, rfl, hnl, hce⟩, hr8⟩ := hr9.2
      simp only [Bool.and_eq_true, Nat.ble_eq, List.all_eq_true] at h1
      obtain ⟨⟨hkb, hu⟩, hes⟩ := h1
      obtain rfl := Nat.eq_of_beq_eq_true hes
      obtain ⟨ht, hok0, hc⟩ := celEq_out hce
      have hb : b < nb' := by
        cases hv0 with
        | slz hz => exact hz
        | sl ha _ _ => exact ha.1
      have hu' : ∀ x ∈ u, x ≠ b := fun x hx he => by
        have := hu x hx
        subst he
        simp at this
      have hok : c.ok n := by
        have ho := R'.objs b hb
        unfold ObjOk at ho
        simp only [e] at ho
        obtain ⟨_, _, _, _, _, _, _, _, _, q⟩ := ho
        exact hok0 q
      have A2 := adopt_one R R' F A hb hkb hu' e ht hok hc
      rw [hnl] at A2
      obtain ⟨ws, β2, H2, nb2, u2, g1, g2, g3, g4⟩ := adopt_all ha R R' F rs vs vs' (b :: u) _ _ _ _ A2 hvs hr8 hk
      refine ⟨_, β2, H2, nb2, u2, g1, g2, fin (RV.ext g4 ?_) g3, (ext_alloc _ _).trans g4⟩
      cases hv0 with
      | slz hz => exact .slz (Nat.lt_succ_self _)
      | @sl _ a' _ _ cap ha hr' hl =>
        have ha2 := ha.2
        simp only [e] at ha2
        obtain rfl := ha2.2 (by trivial)
        unfold RoomOk at hr'
        simp only [e] at hr'
        have hr' := hr' (by trivial)
        refine .sl ⟨Nat.lt_succ_self _, ?_⟩ ?_ hl
        · rw [upd_same]
          exact ⟨Nat.le_refl _, fun _ => by rw [upd_same]⟩
        · unfold RoomOk
          simp only [upd_same]
          intro _; omega

theorem ret_values {β' : Be} {H' : Hp} {nb' n : Nat} {r v' : Value} (h3 : RV β' H' nb' r v') (h8 : retK (unret r n) fun v => v = r) :
    ∃ vs', RVs β' H' nb' (unret r n) vs' ∧ ∀ {β2 : Be} {H2 : Hp} {nb2 : Nat} {ws : List Value} {KK : Value → Prop}, RVs β2 H2 nb2 ws vs' → retK ws KK → ∃ w, KK w ∧ RV β2 H2 nb2 w v' := by
  have one : ∀ {x : Value}, retK [x] (fun v => v = r) → x = r := fun h => h
  generalize hu : unret r n = us at h8
  match us, h8 with
  | [x], h8 =>
    obtain rfl : x = r := h8
    refine ⟨[v'], ⟨rfl, fun i hi => by obtain rfl : i = 0 := (by simpa using hi); simpa using h3⟩, fun {β2 H2 nb2 ws KK} h1 h2 => ?_⟩
    match ws, h1 with
    | [w], h1 => exact ⟨w, h2, by simpa using h1.2 0 (by simp)⟩
    | [], h1 => have := h1.1; simp at this
    | _ :: _ :: _, h1 => have := h1.1; simp at this
  | [], h8 =>
    obtain rfl : r = .tuple ⟨[]⟩ := h8.symm
    cases h3 with
    | @tuple _ l' hl hh =>
      refine ⟨l', ⟨hl, hh⟩, fun {β2 H2 nb2 ws KK} h1 h2 => ?_⟩
      obtain rfl : l' = [] := List.eq_nil_of_length_eq_zero (by simpa using hl.symm)
      obtain rfl : ws = [] := List.eq_nil_of_length_eq_zero (by simpa using h1.1)
      exact ⟨_, h2, .tuple h1.1 h1.2⟩
  | x :: y :: t, h8 =>
    obtain rfl : r = .tuple ⟨x :: y :: t⟩ := h8.symm
    cases h3 with
    | @tuple _ l' hl hh =>
      refine ⟨l', ⟨hl, hh⟩, fun {β2 H2 nb2 ws KK} h1 h2 => ?_⟩
      match ws, h1 with
      | a :: b :: s, h1 => exact ⟨_, h2, .tuple h1.1 h1.2⟩
      | [], h1 => have := h1.1; rw [← hl] at this; simp at this
      | [_], h1 => have := h1.1; rw [← hl] at this; simp at this

/-- **A FUNCTION IS KNOWN BY WHAT IT DOES ON ITS ARGUMENTS, IN MEMORY OF THEIR OWN.** -/
theorem deep_sound {E : Env} (hE : EnvOk P E) {f : Nat} {fn : Func} (hf : P.funcs[f]? = some fn) {F : List DV → Option (List DV)}
    (h : ∀ ds rs, F ds = some rs → (∀ d ∈ ds, d.good) → abody E fn (inV ds 0) (inH ds 0) (inN ds 0) fun r H' _ lo => chk (Nat.ble (inN ds 0) lo) (resOk (inN ds 0) H' rs (unret r rs.length) [] ∧ retK (unret r rs.length) fun v => v = r)) : SoundW P f (deepSem F) := by
  intro args H nb K hk Fb β W argsC R ha
  obtain ⟨ds, hk, hds⟩ := argsK_out R ha hk
  obtain ⟨rs, e, hk⟩ := hk
  · obtain ⟨β1, g1, g2⟩ := local_rel ds argsC 0 hds
    have R1 : Rel Fb β1 (inH ds 0) (inN ds 0) W := ⟨fun b hb => (g1 b (Nat.zero_le _) hb).1, fun b b' hb _ _ ho _ => (by
      obtain ⟨n, g, h3⟩ := (g1 b (Nat.zero_le _) hb).2
      rw [h3] at ho; cases ho), R.floor.none fun b hb => by
      obtain ⟨n, g, h3⟩ := (g1 b (Nat.zero_le _) hb).2
      rw [h3]; rfl⟩
    have hgood : ∀ d ∈ ds, d.good := good_of ds argsC hds
    refine (abody_sound hE hf _ _ _ _ (h ds rs e hgood) Fb β1 W argsC R1 g2).mono ?_
    rintro e' W' ⟨r, H', nb', lo, β', v', h1, h2, h3, h4, h5⟩
    obtain ⟨h6, h7, h8⟩ := chk_out h1
    have h6 : inN ds 0 ≤ lo := by simpa using h6
    have kp := keeps_of_foot h5 h6
    have A : Adopt Fb W W' β H nb (inN ds 0) β' H' nb' β H nb [] := ⟨Nat.le_refl _, R.keep kp, fun _ _ => ⟨rfl, rfl⟩, fun c h h' => by omega⟩
    obtain ⟨vs', k1, k2⟩ := ret_values h3 h8
    obtain ⟨ws, β2, H2, nb2, u2, m1, m2, m3, m4⟩ := adopt_all ha (fun _ h1 h2 => R.lt h1 h2) h4 h5 rs _ vs' [] β H nb _ A k1 h7 hk
    obtain ⟨w, m5, m6⟩ := k2 m3 m1
    refine ⟨w, H2, nb2, nb, β2, v', m5, h2, m6, m2.rel, ⟨kp.size, fun j hj _ => kp.heap j hj, fun b hb => ?_, Nat.le_refl _, m4, kp.same⟩⟩
    rcases Nat.lt_or_ge b nb with h9 | h9
    · exact .inl ⟨h9, (m2.old b h9).1⟩
    · obtain ⟨b0, _, n2, n3, _, n5⟩ := m2.new b h9 hb
      right
      rw [n5]
      rcases h5.new b0 n2 with h | h
      · omega
      · exact h
where
  good_of {β : Be} {H : Hp} {nb : Nat} {W : World} : ∀ (ds : List DV) (vs : List Value), ArgsOk β H nb W ds vs → ∀ d ∈ ds, d.good
    | [], _, _, d, hd => by cases hd
    | d :: ds, [], h, _, _ => by cases h
    | d :: ds, v :: vs, h, x, hx => by
      rcases List.mem_cons.1 hx with rfl | hx
      · cases x with
        | v x => exact h.1.1
        | nil => trivial
        | sl es len c => exact ⟨h.1.1, h.1.2.1, h.1.2.2.1⟩
        | zero j => exact h.1.elim
      · exact good_of ds vs h.2 x hx

theorem retK_mono {vs : List Value} {K K' : Value → Prop} (h : ∀ v, K v → K' v) (k : retK vs K) : retK vs K' := by
  unfold retK at *
  split at k <;> exact h _ k

theorem outK_mono {args : List Value} : ∀ {rs : List DV} {H : Hp} {nb : Nat} {K K' : List Value → Hp → Nat → Prop}, (∀ vs H nb, K vs H nb → K' vs H nb) → outK args rs H nb K → outK args rs H nb K'
  | [], _, _, _, _, h, k => h _ _ _ k
  | .v _ :: rs, _, _, _, _, h, k => outK_mono (rs := rs) (fun _ _ _ q => h _ _ _ q) k
  | .nil :: rs, _, _, _, _, h, k => outK_mono (rs := rs) (fun _ _ _ q => h _ _ _ q) k
  | .sl _ _ _ :: rs, _, _, _, _, h, k => outK_mono (rs := rs) (fun _ _ _ q => h _ _ _ q) k
  | .zero _ :: rs, _, _, _, _, h, k => by
    unfold outK at k ⊢
    split at k
    · exact outK_mono (rs := rs) (fun _ _ _ q => h _ _ _ q) k
    · exact k.elim

theorem argK_mono {H : Hp} {y : Value} {K K' : DV → Prop} (h : ∀ d, K d → K' d) (k : argK H y K) : argK H y K' := by
  have ck : ∀ {b : Bool} {X Y : Prop}, (X → Y) → chk b X → chk b Y := fun {b} {_ _} hh kk => by
    cases b with
    | false => exact kk.elim
    | true => exact hh kk
  have ga : ∀ (n : Nat) {g : Nat → Value} {o : Nat} {K K' : List Value → Prop}, (∀ l, K l → K' l) → gather g o n K → gather g o n K' := by
    intro n
    induction n with
    | zero => intro g o K K' hh kk; exact hh _ kk
    | succ n ih =>
      intro g o K K' hh kk
      unfold gather at kk ⊢
      have fo : ∀ {v : Value} {K K' : Value → Prop}, (∀ v, K v → K' v) → force v K → force v K' := fun {v} {_ _} hh kk => by cases v <;> first | exact hh _ kk | exact kk.elim
      exact fo (fun v q => ih (fun l q => hh _ q) q) kk
  unfold argK at *
  split at k
  · exact h _ k
  · split at k
    · split at k
      · exact ck (fun q => ga _ (fun l q => ck (fun q => h _ q) q) q) k
      · exact ck (fun q => q.mono fun _ q => h _ q) k
      · exact ck (fun q => q.mono fun _ q => h _ q) k
      · exact ck (fun q => q.mono fun _ q => h _ q) k
    · exact k.elim
  · split at k
    · split at k
      · exact k.elim
      · exact ck (fun q => h _ q) k
      · exact ck (fun q => h _ q) k
      · exact ck (fun q => h _ q) k
    · exact k.elim
  · exact ck (fun q => h _ q) k

theorem argsK_mono {H : Hp} : ∀ {ys : List Value} {K K' : List DV → Prop}, (∀ d, K d → K' d) → argsK H ys K → argsK H ys K'
  | [], _, _, h, k => h _ k
  | _ :: ys, _, _, h, k => argK_mono (fun _ q => argsK_mono (ys := ys) (fun _ q => h _ q) q) k

theorem deep_keeps {F : List DV → Option (List DV)} : KeepsSem (deepSem F) := fun args H nb K h =>
  argsK_mono (fun ds ⟨rs, e, k⟩ => ⟨rs, e, outK_mono (fun vs H' nb' q => retK_mono (fun v q => ⟨q, Nat.le_refl _⟩) q) k⟩) h

def Ent.deep {P : Program} (f : Nat) (F : List DV → Option (List DV)) (h : Enters P f) (hs : SoundW P f (deepSem F)) : Ent P := ⟨f, deepSem F, noQ, true, h, hs, noQ_sound, fun _ => deep_keeps⟩

end Go.Eng
