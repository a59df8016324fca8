/- A part of the interpreter of Go code, and of the proof that it says what Go does; no condition. -/
import Derived.Test.YtnnfbgonjonflaaEng1
import Derived.Laws.Cells
import Derived.Laws.Tables
import Derived.Laws.Slices
/-! Operations that read at most: what the interpreter says is what Go does. -/
set_option linter.unusedSimpArgs false
set_option linter.unusedVariables false
namespace Go.Eng
variable {Fb : Nat}
variable {P : Program} {T : TT} {β : Be} {H : Hp} {nb : Nat} {W : World} {a : Act} {fr : Fr}

/-- The values of a type can be held against each other. -/
def CmpOk (P : Program) (t : Nat) (ds : List TypeDesc) : Prop :=
  P.eqGuardType P.depth t = false ∧ (∀ l m r w, eqC ds l m = some r → (Op.equal t (.agg ⟨l⟩) (.agg ⟨m⟩)).run P w = .ok r w) ∧
    (∃ d, P.underlying t = some d ∧ isAgg d = true) ∧ ∀ em l w, l.length = ds.length → (Instr.checkKey em 10000 t (.agg ⟨l⟩)).run P w = .ok () w

def TOk (P : Program) (T : TT) : Prop :=
  ∀ t ti, T t = some ti → P.underlying t = some ti.desc ∧ ∃ i, P.info? t = some i ∧ i.size = ti.size ∧ i.bytes = ti.bytes ∧
    (∃ z, i.zero = some z ∧ z.cells = ⟨ti.zero⟩) ∧ ti.zero.length = ti.size ∧ ti.zero.all flat0 = true ∧ (ti.cmp ≠ [] → CmpOk P t ti.cmp) ∧ i.zero = some (zeroV ti.desc ti.zero)

theorem tyK_out {t : Nat} {K : TI → Prop} (h : tyK T t K) : ∃ ti, T t = some ti ∧ K ti := by
  unfold tyK at h
  cases e : T t with
  | none => rw [e] at h; exact h.elim
  | some ti => rw [e] at h; exact ⟨ti, rfl, h⟩

theorem chk_out {b : Bool} {X : Prop} (h : chk b X) : b = true ∧ X := by
  unfold chk at h
  cases b
  · exact h.elim
  · exact ⟨rfl, h⟩

theorem bcase_out {b : Bool} {X Y : Prop} (h : bcase b X Y) : (b = true ∧ X) ∨ (b = false ∧ Y) := by
  unfold bcase at h
  cases b
  · exact .inr ⟨rfl, h⟩
  · exact .inl ⟨rfl, h⟩

theorem dsplit {p : Prop} [Decidable p] {X Y : Prop} (h1 : p → X) (h2 : ¬ p → Y) : bcase (decide p) X Y := by
  by_cases h : p
  · simp only [h, decide_true]; exact h1 h
  · simp only [h, decide_false]; exact h2 h
theorem esplit {a b : Int} {X Y : Prop} (h1 : a = b → X) (h2 : a ≠ b → Y) : bcase (a == b) X Y := by
  by_cases h : a = b
  · rw [show (a == b) = true from by simp [h]]; exact h1 h
  · rw [show (a == b) = false from by simp [h]]; exact h2 h
theorem nsplit {a b : Int} {X Y : Prop} (h1 : a ≠ b → X) (h2 : a = b → Y) : bcase (a != b) X Y := by
  by_cases h : a = b
  · rw [show (a != b) = false from by simp [h]]; exact h2 h
  · rw [show (a != b) = true from by simp [h]]; exact h1 h
theorem notsplit {b : Bool} {X Y : Prop} (h : bcase b Y X) : bcase (!b) X Y := by
  cases b <;> exact h
theorem bsplit {b : Bool} {X Y : Prop} (h1 : b = true → X) (h2 : b = false → Y) : bcase b X Y := by
  cases b
  · exact h2 rfl
  · exact h1 rfl

theorem chk_intro {b : Bool} {X : Prop} (h1 : b = true) (h2 : X) : chk b X := by
  subst h1; exact h2

theorem force_out {v : Value} {K : Value → Prop} (h : force v K) : K v := by
  cases v <;> first | exact h | exact h.elim

theorem forceC_out {v : Value} {K : Value → Prop} (h : forceC v K) : K v ∧ flat0 v = true := by
  unfold forceC at h
  split at h <;> first | exact ⟨h, rfl⟩ | exact h.elim

theorem rd_out {x : Operand} {K : Value → Prop} (hfr : ∀ k, RV β H nb (fr k) (a.tmps.getD k undef)) (h : rd fr x K) : ∃ v, K v ∧ RV β H nb v (a.eval x) := by
  cases x with
  | tmp t => exact ⟨fr t, force_out h, hfr t⟩
  | const v => exact ⟨v, (forceC_out h).1, flat0_refl (forceC_out h).2⟩
  | global g => exact h.elim
  | func f => exact ⟨_, h, .func (f := []) (c := []) (f' := []) (c' := []) _ rfl (fun i hi => absurd hi (by simp)) rfl (fun i hi => absurd hi (by simp))⟩

theorem rdAll_out (hfr : ∀ k, RV β H nb (fr k) (a.tmps.getD k undef)) : ∀ (xs : List Operand) {K : List Value → Prop}, rdAll fr xs K → ∃ l, K l ∧ RVs β H nb l (xs.map a.eval)
  | [], K, h => ⟨[], h, rfl, fun i hi => absurd hi (by simp)⟩
  | x :: xs, K, h => by
    obtain ⟨v, h1, h2⟩ := rd_out hfr h
    obtain ⟨l, h3, h4⟩ := rdAll_out hfr xs h1
    refine ⟨v :: l, h3, by simp [h4.1], fun i hi => ?_⟩
    cases i with
    | zero => simpa using h2
    | succ i => simpa using h4.2 i (by simpa using hi)

theorem gather_out {g : Nat → Value} : ∀ (n o : Nat) {K : List Value → Prop}, gather g o n K → ∃ l, K l ∧ l.length = n ∧ ∀ i, i < n → l.getD i undef = g (o + i)
  | 0, o, K, h => ⟨[], h, rfl, fun i hi => absurd hi (by simp)⟩
  | n + 1, o, K, h => by
    have h1 := force_out h
    obtain ⟨l, h3, h4, h5⟩ := gather_out n (o + 1) h1
    refine ⟨g o :: l, h3, by simp [h4], fun i hi => ?_⟩
    cases i with
    | zero => simp
    | succ i => simpa [Nat.add_assoc, Nat.add_comm 1 i] using h5 i (by omega)

/-- In every world that keeps what 'W' has, the program comes to 'v' and changes nothing. -/
def RunsTo (P : Program) (W : World) (s : Sem Value) (v : Value) : Prop := ∀ w, Keeps W w → s.run P w = .ok v w
/-- .. whatever the world. -/
def RunsAny (P : Program) (s : Sem Value) (v : Value) : Prop := ∀ w, True → s.run P w = .ok v w

theorem run_und {w : World} {t : Nat} {d : TypeDesc} (h : P.underlying t = some d) : (underlying t).run P w = .ok d w := by
  simp [underlying, h]

theorem run_ti {w : World} {t : Nat} {i : TypeInfo} (h : P.info? t = some i) : (typeInfo t).run P w = .ok i w := by
  simp [typeInfo, h]

theorem run_size {w : World} {t : Nat} {i : TypeInfo} (h : P.info? t = some i) : (sizeOf t).run P w = .ok i.size w := by
  simp [sizeOf, run_ti h]

theorem run_isAgg {w : World} {t : Nat} {d : TypeDesc} (h : P.underlying t = some d) : (Go.isAgg t).run P w = .ok (isAgg d) w := by
  simp only [Go.isAgg, Sem.run_bind, run_und h, Result.andThen_ok]
  cases d <;> rfl

theorem cells_of {w : World} (R : Rel Fb β H nb W) (k : Keeps W w) {b : Nat} (hb : b < nb) {own fl : Bool} {n : Nat} {g : Cel} (e : H b = .cells own fl n g) :
    ∃ f : Nat → Value, ∀ o, o < n → w.cell? ⟨(β b).blk, (β b).sh + o, none⟩ = some (f o) ∧ RV β H nb (g o) (f o) := by
  have h := ObjOk.keep k R hb
  unfold ObjOk at h
  simp only [e] at h
  obtain ⟨C, t, fz, h1, h2, h3, h4, h5, h6⟩ := h
  refine ⟨fun o => C.getD ((β b).sh + o) undef, fun o ho => ?_⟩
  obtain ⟨v', h6, h7⟩ := h4 o ho
  simp only [World.cell?, h1, Option.isSome_none, Bool.false_eq_true, if_false]
  have : C.getD ((β b).sh + o) undef = v' := by simp [h6]
  rw [this]
  exact ⟨h6, h7⟩

theorem cell_same {w : World} (k : Keeps W w) {A : Addr} {v : Value} (h : W.cell? A = some v) : w.cell? A = some v := by
  have := World.block_lt_of_cell? W _ h
  unfold World.cell? at *
  rw [k.heap _ this]
  exact h

theorem getD_map_range (f : Nat → Value) (n i : Nat) (h : i < n) : ((List.range n).map f).getD i undef = f i := by
  simp [List.getD_eq_getElem?_getD, h]

theorem load_out {t : Nat} {p p' : Value} {K : Value → Prop} (hT : TOk P T) (R : Rel Fb β H nb W) (hp : RV β H nb p p') (h : aload T t p H K) :
    ∃ v v', K v ∧ RV β H nb v v' ∧ RunsTo P W (Instr.loadAt t p') v' := by
  unfold aload at h
  split at h
  case h_2 => exact h.elim
  rename_i b o ver
  cases hp with
  | @ptr _ a' ha =>
  obtain ⟨hb, ha⟩ := ha
  cases e : H b <;> simp only [e] at h ha
  all_goals first | exact h.elim | skip
  rename_i own fl n g
  obtain ⟨ti, hti, h⟩ := tyK_out h
  obtain ⟨hu, i, hi, hs, _⟩ := hT _ _ hti
  obtain ⟨f, hf⟩ := cells_of R (Keeps.refl W) hb e
  cases hagg : isAgg ti.desc <;> simp only [hagg] at h
  · obtain ⟨hc, h6⟩ := chk_out h
    simp only [Bool.and_eq_true, Nat.beq_eq, Nat.blt_eq] at hc
    obtain ⟨rfl, hlt⟩ := hc
    obtain rfl := ha.2 rfl
    refine ⟨g o, f o, force_out h6, (hf o hlt).2, fun w k => ?_⟩
    have hc := cell_same k (hf o hlt).1
    simp [Instr.loadAt, Instr.sureAddr, loadVar, run_isAgg hu, hagg, hc]
  · obtain ⟨hc, h6⟩ := chk_out h
    simp only [Bool.and_eq_true, Nat.beq_eq, Nat.ble_eq] at hc
    obtain ⟨rfl, hle⟩ := hc
    obtain rfl := ha.2 rfl
    obtain ⟨l, hK, hl, hg⟩ := gather_out _ _ h6
    refine ⟨.agg ⟨l⟩, .agg ⟨(List.range ti.size).map fun j => f (o + j)⟩, hK, .agg (by simp [hl]) (fun j hj => ?_), fun w k => ?_⟩
    · rw [hl] at hj
      rw [hg j hj, getD_map_range _ _ _ hj]
      exact (hf (o + j) (by omega)).2
    · have hc : ∀ j, j < ti.size → w.cell? ((⟨(β b).blk, (β b).sh + o, none⟩ : Addr).add j) = some (f (o + j)) := fun j hj => by
        rw [Addr.add_lit, Nat.add_assoc]
        exact cell_same k (hf (o + j) (by omega)).1
      have hl := run_loadCells (P := P) w ⟨(β b).blk, (β b).sh + o, none⟩ ti.size (fun j => f (o + j)) hc
      simp [Instr.loadAt, Instr.sureAddr, loadVar, run_isAgg hu, hagg, run_size hi, hs, hl]

theorem cell_at {w : World} {A : Addr} {v : Value} (k : w.heap[A.block]? = W.heap[A.block]?) (h : W.cell? A = some v) : w.cell? A = some v := by
  unfold World.cell? at *
  rw [k]
  exact h

theorem load_at {t : Nat} {p p' : Value} {K : Value → Prop} (hT : TOk P T) (R : Rel Fb β H nb W) (hp : RV β H nb p p') (h : aload T t p H K) :
    ∃ v v', K v ∧ RV β H nb v v' ∧ ∃ b o ver X off, p = .pointer (some ⟨b, o, some ver⟩) ∧ p' = .pointer (some ⟨X, off, none⟩) ∧ X = (β b).blk ∧ b < nb ∧ X < W.heap.size ∧ (∃ own fl g, H b = .cells own fl ver g) ∧ ∀ w, w.heap[X]? = W.heap[X]? → (Instr.loadAt t p').run P w = .ok v' w := by
  unfold aload at h
  split at h
  case h_2 => exact h.elim
  rename_i b o ver
  cases hp with
  | @ptr _ a' ha =>
  obtain ⟨hb, ha⟩ := ha
  cases e : H b <;> simp only [e] at h ha
  all_goals first | exact h.elim | skip
  rename_i own fl n g
  obtain ⟨ti, hti, h⟩ := tyK_out h
  obtain ⟨hu, i, hi, hs, _⟩ := hT _ _ hti
  obtain ⟨f, hf⟩ := cells_of R (Keeps.refl W) hb e
  cases hagg : isAgg ti.desc <;> simp only [hagg] at h
  · obtain ⟨hc, h6⟩ := chk_out h
    simp only [Bool.and_eq_true, Nat.beq_eq, Nat.blt_eq] at hc
    obtain ⟨rfl, hlt⟩ := hc
    obtain rfl := ha.2 rfl
    refine ⟨g o, f o, force_out h6, (hf o hlt).2, b, o, _, _, _, rfl, rfl, rfl, hb, R.lt hb (by rw [e]; rfl), ⟨_, _, _, e⟩, fun w k => ?_⟩
    have hc := cell_at k (hf o hlt).1
    simp [Instr.loadAt, Instr.sureAddr, loadVar, run_isAgg hu, hagg, hc]
  · obtain ⟨hc, h6⟩ := chk_out h
    simp only [Bool.and_eq_true, Nat.beq_eq, Nat.ble_eq] at hc
    obtain ⟨rfl, hle⟩ := hc
    obtain rfl := ha.2 rfl
    obtain ⟨l, hK, hl, hg⟩ := gather_out _ _ h6
    refine ⟨.agg ⟨l⟩, .agg ⟨(List.range ti.size).map fun j => f (o + j)⟩, hK, .agg (by simp [hl]) (fun j hj => ?_), b, o, _, _, _, rfl, rfl, rfl, hb, R.lt hb (by rw [e]; rfl), ⟨_, _, _, e⟩, fun w k => ?_⟩
    · rw [hl] at hj
      rw [hg j hj, getD_map_range _ _ _ hj]
      exact (hf (o + j) (by omega)).2
    · have hc : ∀ j, j < ti.size → w.cell? ((⟨(β b).blk, (β b).sh + o, none⟩ : Addr).add j) = some (f (o + j)) := fun j hj => by
        rw [Addr.add_lit, Nat.add_assoc]
        exact cell_at k (hf (o + j) (by omega)).1
      have hl := run_loadCells (P := P) w ⟨(β b).blk, (β b).sh + o, none⟩ ti.size (fun j => f (o + j)) hc
      simp [Instr.loadAt, Instr.sureAddr, loadVar, run_isAgg hu, hagg, run_size hi, hs, hl]

theorem AddrOk.add {a a' : Addr} {b o ver n : Nat} (h : AddrOk β H nb ⟨b, o, some ver⟩ a') : AddrOk β H nb ⟨b, o + n, some ver⟩ (a'.add n) := by
  obtain ⟨h1, h2⟩ := h
  refine ⟨h1, ?_⟩
  cases e : H b <;> simp only [e] at h2 ⊢
  all_goals first | exact h2.elim | skip
  refine ⟨h2.1, fun he => ?_⟩
  rw [h2.2 he, Addr.add_lit, Nat.add_assoc]

theorem afield_out {s f : Nat} {K : Nat → Nat → Prop} (hT : TOk P T) (h : afield T s f K) : ∃ fs fd, P.underlying s = some (.struct fs) ∧ fs[f]? = some fd ∧ K fd.offset fd.type := by
  obtain ⟨ti, hti, h⟩ := tyK_out h
  have hu := (hT _ _ hti).1
  cases ed : ti.desc <;> rw [ed] at h hu <;> simp only at h
  all_goals first | exact h.elim | skip
  rename_i fs
  cases e : fs[f]? with
  | none => rw [e] at h; exact h.elim
  | some fd => rw [e] at h; exact ⟨fs, fd, hu, e, h⟩

theorem fieldAddr_out {s f : Nat} {p p' : Value} {K : Value → Prop} (hT : TOk P T) (hp : RV β H nb p p') (h : afieldAddr T s p f K) :
    ∃ v v', K v ∧ RV β H nb v v' ∧ RunsAny P (Instr.fieldAt s p' f) v' := by
  unfold afieldAddr at h
  split at h
  case h_2 => exact h.elim
  rename_i b o ver
  cases hp with
  | @ptr _ a' ha =>
  obtain ⟨fs, fd, h1, h2, h3⟩ := afield_out hT h
  obtain ⟨ti, hti, h4⟩ := tyK_out h3
  obtain ⟨h5, h6⟩ := chk_out h4
  obtain ⟨_, i, hi, hs, _⟩ := hT _ _ hti
  refine ⟨_, .pointer (some (a'.add fd.offset)), h6, .ptr (ha.add (a := a')), fun w k => ?_⟩
  have h0 : ¬ (i.size = 0) := by rw [hs]; intro h0; rw [h0] at h5; simp at h5
  simp [Instr.fieldAt, run_und h1, h2, Instr.sureAddr, fieldPlace, run_size hi, h0]

theorem extract_getD (l : List Value) (off n i : Nat) (hi : i < n) (hle : off + n ≤ l.length) :
    (((⟨l⟩ : Array Value).extract off (off + n)).toList).getD i undef = l.getD (off + i) undef := by
  have h1 : off + i < l.length := by omega
  simp [List.getD_eq_getElem?_getD, List.extract_eq_take_drop, List.getElem?_take, hi]

theorem part_agg {w : World} {t : Nat} {d : TypeDesc} {i : TypeInfo} {l : List Value} {off : Nat} (hu : P.underlying t = some d) (hi : P.info? t = some i) (hagg : isAgg d = true) :
    (part t ⟨l⟩ off).run P w = .ok (.agg ((⟨l⟩ : Array Value).extract off (off + i.size))) w := by
  simp [part, run_isAgg hu, hagg, run_size hi]

theorem part_one {w : World} {t : Nat} {d : TypeDesc} {l : List Value} {off : Nat} (hu : P.underlying t = some d) (hagg : isAgg d = false) (hlt : off < l.length) :
    (part t ⟨l⟩ off).run P w = .ok (l.getD off undef) w := by
  simp [part, run_isAgg hu, hagg, hlt, List.getD_eq_getElem?_getD]

/-- The cells off, off + 1, .. of an aggregate, as one value. -/
theorem part_out {t : Nat} {ti : TI} {l l' : List Value} {off : Nat} {K : Value → Prop} (hT : TOk P T) (hti : T t = some ti) (hl : RVs β H nb l l')
    (h : match isAgg ti.desc with
      | true => off + ti.size ≤ l.length ∧ gather (fun k => l.getD k undef) off ti.size (fun l => K (.agg ⟨l⟩))
      | false => off < l.length ∧ force (l.getD off undef) K) :
    ∃ v v', K v ∧ RV β H nb v v' ∧ RunsAny P (part t ⟨l'⟩ off) v' := by
  obtain ⟨hu, i, hi, hs, _⟩ := hT _ _ hti
  cases hagg : isAgg ti.desc <;> simp only [hagg] at h
  · refine ⟨_, l'.getD off undef, force_out h.2, hl.2 _ h.1, fun w _ => part_one hu hagg (hl.1 ▸ h.1)⟩
  · obtain ⟨m, hK, hm, hg⟩ := gather_out _ _ h.2
    refine ⟨_, .agg ((⟨l'⟩ : Array Value).extract off (off + ti.size)), hK, ?_, fun w _ => by rw [part_agg hu hi hagg, hs]⟩
    have e1 : ((⟨l'⟩ : Array Value).extract off (off + ti.size)) = ⟨((⟨l'⟩ : Array Value).extract off (off + ti.size)).toList⟩ := rfl
    rw [e1]
    have hle : off + ti.size ≤ l'.length := hl.1 ▸ h.1
    refine .agg ?_ fun j hj => ?_
    · simp [List.extract_eq_take_drop]; omega
    · rw [hm] at hj
      rw [hg j hj, extract_getD l' off ti.size j hj hle]
      exact hl.2 _ (by omega)

theorem agg_inv {l : List Value} {v' : Value} (h : RV β H nb (.agg ⟨l⟩) v') : ∃ l', v' = .agg ⟨l'⟩ ∧ RVs β H nb l l' := by
  cases h with
  | agg hl h => exact ⟨_, rfl, hl, h⟩

theorem fieldVal_out {s f : Nat} {x x' : Value} {K : Value → Prop} (hT : TOk P T) (hx : RV β H nb x x') (h : afieldVal T s x f K) :
    ∃ v v', K v ∧ RV β H nb v v' ∧ RunsAny P (Instr.field s x' f) v' := by
  unfold afieldVal at h
  split at h
  case h_2 => exact h.elim
  rename_i l
  obtain ⟨l', rfl, hl⟩ := agg_inv hx
  obtain ⟨fs, fd, h1, h2, h3⟩ := afield_out hT h
  obtain ⟨ti, hti, h4⟩ := tyK_out h3
  have hp := part_out (K := K) hT hti hl (off := fd.offset) (by
    cases hagg : isAgg ti.desc <;> simp only [hagg] at h4 ⊢ <;> obtain ⟨h5, h6⟩ := chk_out h4
    · exact ⟨by simpa using h5, h6⟩
    · exact ⟨by simpa using h5, h6⟩)
  obtain ⟨v, v', hK, hv, hr⟩ := hp
  refine ⟨v, v', hK, hv, fun w k => ?_⟩
  simp [Instr.field, run_und h1, h2, asAgg, hr w k]

theorem index_out {t : Nat} {x x' ix ix' : Value} {K : Value → Prop} (hT : TOk P T) (hx : RV β H nb x x') (hi : RV β H nb ix ix') (h : aindex T t x ix K) :
    ∃ v v', K v ∧ RV β H nb v v' ∧ RunsAny P (Instr.index t x' ix') v' := by
  unfold aindex at h
  split at h
  case h_2 => exact h.elim
  rename_i k i
  cases hi
  split at h
  · rename_i l
    obtain ⟨l', rfl, hl⟩ := agg_inv hx
    obtain ⟨ti, hti, h⟩ := tyK_out h
    have hu := (hT _ _ hti).1
    cases ed : ti.desc <;> rw [ed] at h hu <;> simp only at h
    all_goals first | exact h.elim | skip
    rename_i len e
    obtain ⟨te, hte, h⟩ := tyK_out h
    obtain ⟨_, ie, hie, hs, _⟩ := hT _ _ hte
    have hb : 0 ≤ i ∧ i < (len : Int) := by
      cases hagg : isAgg te.desc <;> simp only [hagg] at h <;> have := (chk_out h).1 <;> simp only [Bool.and_eq_true, decide_eq_true_eq] at this <;> exact this.1
    have hp := part_out (K := K) hT hte hl (off := i.toNat * te.size) (by
      cases hagg : isAgg te.desc <;> simp only [hagg] at h ⊢ <;> obtain ⟨h5, h6⟩ := chk_out h <;> simp only [Bool.and_eq_true, decide_eq_true_eq, Nat.ble_eq, Nat.blt_eq] at h5
      · exact ⟨h5.2, h6⟩
      · exact ⟨h5.2, h6⟩)
    obtain ⟨v, v', hK, hv, hr⟩ := hp
    refine ⟨v, v', hK, hv, fun w k => ?_⟩
    simp [Instr.index, asIntOf, run_und hu, hb, run_size hie, hs, hr w k]
  · rename_i s
    cases hx
    obtain ⟨ti, hti, h⟩ := tyK_out h
    have hu := (hT _ _ hti).1
    cases ed : ti.desc <;> rw [ed] at h hu <;> simp only at h
    all_goals first | exact h.elim | skip
    obtain ⟨h1, h2⟩ := chk_out h
    simp only [Bool.and_eq_true, decide_eq_true_eq] at h1
    refine ⟨_, _, h2, .int _ _, fun w k => ?_⟩
    have hlt : i.toNat < s.size := by omega
    have hlt' : i.toNat < s.data.toList.length := by simpa using hlt
    have he : s[i.toNat]? = some s[i.toNat] := by simp [hlt]
    simp only [Instr.index, asIntOf, Sem.run_bind, Sem.run_pure, Result.andThen_ok, run_und hu, h1.1, if_true, he]
    congr 2
    have h9 : i.toNat < s.data.size := hlt
    simp only [List.getD_eq_getElem?_getD, Array.getElem?_toList, Array.getElem?_eq_getElem h9, Option.getD_some]
    rfl
  · exact h.elim

theorem indexAddr_out {t : Nat} {x x' ix ix' : Value} {K : Value → Prop} (hT : TOk P T) (hx : RV β H nb x x') (hi : RV β H nb ix ix') (h : aindexAddr T t x ix K) :
    ∃ v v', K v ∧ RV β H nb v v' ∧ RunsAny P (Instr.indexAt t x' ix') v' := by
  unfold aindexAddr at h
  split at h
  case h_2 => exact h.elim
  rename_i k i
  cases hi
  obtain ⟨ti, hti, h⟩ := tyK_out h
  have hu := (hT _ _ hti).1
  cases ed : ti.desc <;> rw [ed] at h hu <;> simp only at h
  all_goals first | exact h.elim | skip
  · rename_i e
    obtain ⟨te, hte, h⟩ := tyK_out h
    obtain ⟨_, ie, hie, hs, _⟩ := hT _ _ hte
    split at h
    case h_2 => exact h.elim
    rename_i b o ver len es
    obtain ⟨h1, h2⟩ := chk_out h
    simp only [Bool.and_eq_true, decide_eq_true_eq] at h1
    cases hx with
    | slz => exfalso; have := h1.2; have := h1.1; omega
    | @sl _ a' _ _ cap ha hr hl =>
    refine ⟨_, .pointer (some (a'.add (i.toNat * te.size))), h2, .ptr (ha.add (a := a')), fun w k => ?_⟩
    simp [Instr.indexAt, asIntOf, run_und hu, h1, run_size hie, hs]
  · rename_i len e
    obtain ⟨te, hte, h⟩ := tyK_out h
    obtain ⟨_, ie, hie, hs, _⟩ := hT _ _ hte
    split at h
    case h_2 => exact h.elim
    rename_i b o ver
    obtain ⟨h1, h2⟩ := chk_out h
    simp only [Bool.and_eq_true, decide_eq_true_eq] at h1
    cases hx with
    | @ptr _ a' ha =>
    refine ⟨_, .pointer (some (a'.add (i.toNat * te.size))), h2, .ptr (ha.add (a := a')), fun w k => ?_⟩
    simp [Instr.indexAt, asIntOf, run_und hu, h1, run_size hie, hs, Instr.sureAddr]

end Go.Eng
