/- A part of the interpreter of Go code, and of the proof that it says what Go does; no condition. -/
import Derived.Test.YtnnfbgonjonflaaEng14
import Derived.Test.YtnnfbgonjonflaaEng22
/-! Functions of which it is known that they answer with something of a shape: draws. -/
set_option linter.unusedSimpArgs false
set_option linter.unusedVariables false
namespace Go.Eng
variable {Fb : Nat}
variable {P : Program}

/-- Something of which only so much is known. -/
inductive HavK {α : Type} (Q : α → Prop) (X : α → Prop) : Prop
  | mk (h : ∀ a, Q a → X a)

inductive Hav3 {α : Type} (Q : α → Int → Prop) (X : α → Int → Int → Prop) : Prop
  | mk (h : ∀ x a s, Q x a → X x a s)


/-- A function that reads slices of plain values: its answers are those of some 'x', of which 'Post' holds. -/
def relSem {α : Type} (res : α → List DV) (Pre : List DV → Prop) (Post : List DV → α → Prop) : Sem1 := fun args H nb K =>
  argsK H args fun ds => PreK (Pre ds) (HavK (Post ds) fun x => outK args (res x) H nb fun vs H' nb' => retK vs fun v => K v H' nb' nb)

theorem rel_sound {E : Env} (hE : EnvOk P E) {f : Nat} {fn : Func} (hf : P.funcs[f]? = some fn) {α : Type} {res : α → List DV} {Pre : List DV → Prop} {Post : List DV → α → Prop}
    (h : ∀ ds, Pre ds → (∀ d ∈ ds, d.good) → abody E fn (inV ds 0) (inH ds 0) (inN ds 0) fun r H' _ lo => chk (Nat.ble (inN ds 0) lo) (∃ x, Post ds x ∧ resOk (inN ds 0) H' (res x) (unret r (res x).length) [] ∧ retK (unret r (res x).length) fun v => v = r)) : SoundW P f (relSem res Pre Post) := by
  intro args H nb K hk Fb β W argsC R ha
  obtain ⟨ds, hk, hds⟩ := argsK_out R ha hk
  obtain ⟨hp, hk⟩ := hk
  obtain ⟨β1, g1, g2⟩ := local_rel ds argsC 0 hds
  have R1 : Rel Fb β1 (inH ds 0) (inN ds 0) W := ⟨fun b hb => (g1 b (Nat.zero_le _) hb).1, fun b b' hb _ _ ho _ => (by
    obtain ⟨n, g, h3⟩ := (g1 b (Nat.zero_le _) hb).2
    rw [h3] at ho; cases ho), R.floor.none fun b hb => by
    obtain ⟨n, g, h3⟩ := (g1 b (Nat.zero_le _) hb).2
    rw [h3]; rfl⟩
  have hgood : ∀ d ∈ ds, d.good := deep_sound.good_of ds argsC hds
  refine (abody_sound hE hf _ _ _ _ (h ds hp hgood) Fb β1 W argsC R1 g2).mono ?_
  rintro e' W' ⟨r, H', nb', lo, β', v', h1, h2, h3, h4, h5⟩
  obtain ⟨h6, x, hx, h7, h8⟩ := chk_out h1
  have h6 : inN ds 0 ≤ lo := by simpa using h6
  have kp := keeps_of_foot h5 h6
  have A : Adopt Fb W W' β H nb (inN ds 0) β' H' nb' β H nb [] := ⟨Nat.le_refl _, R.keep kp, fun _ _ => ⟨rfl, rfl⟩, fun c h h' => by omega⟩
  obtain ⟨vs', k1, k2⟩ := ret_values h3 h8
  obtain ⟨hk⟩ := hk
  obtain ⟨ws, β2, H2, nb2, u2, m1, m2, m3, m4⟩ := adopt_all ha (fun _ h1 h2 => R.lt h1 h2) h4 h5 (res x) _ vs' [] β H nb _ A k1 h7 (hk x hx)
  obtain ⟨w, m5, m6⟩ := k2 m3 m1
  refine ⟨w, H2, nb2, nb, β2, v', m5, h2, m6, m2.rel, ⟨kp.size, fun j hj _ => kp.heap j hj, fun b hb => ?_, Nat.le_refl _, m4, kp.same⟩⟩
  rcases Nat.lt_or_ge b nb with h9 | h9
  · exact .inl ⟨h9, (m2.old b h9).1⟩
  · obtain ⟨b0, _, n2, n3, _, n5⟩ := m2.new b h9 hb
    right
    rw [n5]
    rcases h5.new b0 n2 with h | h
    · omega
    · exact h

theorem rel_keeps {α : Type} {res : α → List DV} {Pre : List DV → Prop} {Post : List DV → α → Prop} : KeepsSem (relSem res Pre Post) := fun args H nb K h =>
  argsK_mono (fun ds ⟨p, ⟨k⟩⟩ => ⟨p, ⟨fun x hx => outK_mono (fun vs H' nb' q => retK_mono (fun v q => ⟨q, Nat.le_refl _⟩) q) (k x hx)⟩⟩) h

def Ent.rel {P : Program} {α : Type} (f : Nat) (res : α → List DV) (Pre : List DV → Prop) (Post : List DV → α → Prop) (h : Enters P f) (hs : SoundW P f (relSem res Pre Post)) : Ent P := ⟨f, relSem res Pre Post, noQ, true, h, hs, noQ_sound, fun _ => rel_keeps⟩

/-! ### Arguments in other places than one -/

def ArgOkB (bad : Nat) (W : World) (d : DV) (v' : Value) : Prop :=
  match d with
  | .v x => flat x = true ∧ v' = x
  | .nil => v' = .slice none 0 0
  | .sl es len c => 0 < es ∧ c.typed = true ∧ c.ok (len * es) ∧ ∃ bl : Bl, bl.blk ≠ bad ∧ ∃ C t fz, W.heap[bl.blk]? = some (.cells C t fz) ∧ C.size = bl.csz ∧ bl.sh + len * es ≤ C.size ∧
      (∀ o, o < len * es → C[bl.sh + o]? = some (c.at o)) ∧
      ((∃ cap, v' = .slice (some ⟨bl.blk, bl.sh, none⟩) len cap ∧ len ≤ cap ∧ bl.sh + cap * es ≤ bl.csz) ∨ (len = 0 ∧ ∃ a', v' = .slice (some a') 0 0))
  | .zero _ => False

def notB (b : Nat) (v : Value) : Bool := match v with | .slice (some ⟨x, _, _⟩) _ _ => !Nat.beq x b | _ => true

theorem sl_placeB {β : Be} {H : Hp} {nb : Nat} {W : World} (R : Rel Fb β H nb W) {bad : Nat} (hbad : bad < nb) (hown : isOwn (H bad) = true) {b o ver len es n : Nat} (hbb : b ≠ bad) {own fl : Bool} {g : Cel} {v' : Value} (hy : RV β H nb (.slice (some ⟨b, o, some ver⟩) len es) v') (e : H b = .cells own fl n g)
    (hv : n = ver) (hle : o + len * es ≤ n) (he : 0 < es) {c : Cel} (ht : c.typed = true) (hok : c.ok (len * es)) (hc : ∀ k, k < len * es → g.at (o + k) = c.at k) : ArgOkB (β bad).blk W (.sl es len c) v' := by
  have hb : b < nb := by
    cases hy with
    | slz hz => exact hz
    | sl ha _ _ => exact ha.1
  have ho := R.objs b hb
  unfold ObjOk at ho
  simp only [e] at ho
  obtain ⟨C, t, fz, q1, q2, q3, q4, q5, q6⟩ := ho
  refine ⟨he, ht, hok, ⟨(β b).blk, (β b).sh + o, (β b).csz⟩, (R.inj bad b hbad hb (Ne.symm hbb) hown (by rw [e]; rfl)).symm, C, t, fz, q1, q2, by simp only; omega, fun k hk => ?_, ?_⟩
  · obtain ⟨v', r1, r2⟩ := q4 (o + k) (by omega)
    rw [hc k hk] at r2
    rw [flat0_eq r2 (Cel.flat_of ht k)] at r1
    rw [Nat.add_assoc]; exact r1
  · cases hy with
    | slz hz => exact .inr ⟨rfl, _, rfl⟩
    | @sl _ a' _ _ cap ha hr hl =>
      have ha2 := ha.2
      simp only [e] at ha2
      have := ha2.2 hv.symm
      subst this
      refine .inl ⟨cap, rfl, hl, ?_⟩
      unfold RoomOk at hr
      simp only [e] at hr
      exact hr hv.symm

theorem argK_outB {β : Be} {H : Hp} {nb : Nat} {W : World} (R : Rel Fb β H nb W) {bad : Nat} (hbad : bad < nb) (hown : isOwn (H bad) = true) {y v' : Value} (hn : notB bad y = true) {K : DV → Prop} (hy : RV β H nb y v') (h : argK H y K) : ∃ d, K d ∧ ArgOkB (β bad).blk W d v' := by
  unfold argK at h
  split at h
  · exact ⟨_, h, by cases hy; rfl⟩
  · rename_i b o ver len es
    have hbb : b ≠ bad := fun he => by subst he; simp [notB] at hn
    cases e : H b <;> rw [e] at h <;> simp only at h
    rename_i own fl n g
    cases g <;> simp only at h
    all_goals
      obtain ⟨h1, h2⟩ := chk_out h
      simp only [Bool.and_eq_true, Nat.beq_eq, Nat.ble_eq, Nat.blt_eq] at h1
      obtain ⟨⟨c1, c2⟩, c3⟩ := h1
    case fn g =>
      obtain ⟨l, g1, g2, g3⟩ := gather_cel _ h2
      obtain ⟨g4, g5⟩ := chk_out g1
      exact ⟨_, g5, sl_placeB R hbad hown hbb hy e c1 c2 c3 g4 (celOf_ok g2) (fun k hk => by rw [celOf_at (by omega), g3 k hk]; rfl)⟩
    case ints k l =>
      exact ⟨_, h2.out (argK_out.cel_ok (g := .ints k l) R hy e), sl_placeB R hbad hown hbb hy e c1 c2 c3 rfl (Cel.sub_ok (c := .ints k l) (argK_out.cel_ok R hy e) c2) (fun j hj => (Cel.sub_at (c := .ints k l) hj).symm)⟩
    case strs l => exact ⟨_, h2.out (argK_out.cel_ok (g := .strs l) R hy e), sl_placeB R hbad hown hbb hy e c1 c2 c3 rfl (Cel.sub_ok (c := .strs l) (argK_out.cel_ok R hy e) c2) (fun j hj => (Cel.sub_at (c := .strs l) hj).symm)⟩
    case bools l => exact ⟨_, h2.out (argK_out.cel_ok (g := .bools l) R hy e), sl_placeB R hbad hown hbb hy e c1 c2 c3 rfl (Cel.sub_ok (c := .bools l) (argK_out.cel_ok R hy e) c2) (fun j hj => (Cel.sub_at (c := .bools l) hj).symm)⟩
  · rename_i b o es
    have hbb : b ≠ bad := fun he => by subst he; simp [notB] at hn
    obtain ⟨hb, a', rfl⟩ : b < nb ∧ ∃ a', v' = .slice (some a') 0 0 := by
      cases hy with
      | slz hz => exact ⟨hz, _, rfl⟩
      | sl ha hr _ => exact hr.elim
    have ho := R.objs b hb
    unfold ObjOk at ho
    cases e : H b <;> rw [e] at h ho <;> try simp only at h
    all_goals first | exact h.elim | skip
    obtain ⟨C, t, fz, q1, q2, _⟩ := ho
    rename_i own fl n g _
    cases g <;> try simp only at h
    all_goals first | exact h.elim | skip
    all_goals
      obtain ⟨h1, h2⟩ := chk_out h
      refine ⟨_, h2, by simpa using h1, rfl, by simp [Cel.ok], ⟨(β b).blk, 0, (β b).csz⟩, (R.inj bad b hbad hb (Ne.symm hbb) hown (by rw [e]; rfl)).symm, C, t, fz, q1, q2, by simp, fun o ho => by simp at ho, .inr ⟨rfl, _, rfl⟩⟩
  · obtain ⟨h1, h2⟩ := chk_out h
    exact ⟨_, h2, h1, flat_eq hy h1⟩

def ArgsOkB (bad : Nat) (W : World) : List DV → List Value → Prop
  | [], [] => True
  | d :: ds, v :: vs => ArgOkB bad W d v ∧ ArgsOkB bad W ds vs
  | _, _ => False

theorem argsK_outB {β : Be} {H : Hp} {nb : Nat} {W : World} (R : Rel Fb β H nb W) {bad : Nat} (hbad : bad < nb) (hown : isOwn (H bad) = true) : ∀ {ys vs' : List Value} {K : List DV → Prop}, ys.all (notB bad) = true → RVs β H nb ys vs' → argsK H ys K → ∃ ds, K ds ∧ ArgsOkB (β bad).blk W ds vs'
  | [], vs', K, _, hy, h => by
    have : vs' = [] := List.eq_nil_of_length_eq_zero (by simpa using hy.1.symm)
    subst this
    exact ⟨[], h, trivial⟩
  | y :: ys, vs', K, hn, hy, h => by
    simp only [List.all_cons, Bool.and_eq_true] at hn
    cases vs' with
    | nil => have := hy.1; simp at this
    | cons v vs' =>
      have hy0 : RV β H nb y v := by simpa using hy.2 0 (by simp)
      have hys : RVs β H nb ys vs' := ⟨by simpa using hy.1, fun i hi => by simpa using hy.2 (i + 1) (by simpa using hi)⟩
      obtain ⟨d, h1, h2⟩ := argK_outB R hbad hown hn.1 hy0 h
      obtain ⟨ds, h3, h4⟩ := argsK_outB R hbad hown hn.2 hys h1
      exact ⟨d :: ds, h3, h2, h4⟩

theorem local_relB {bad : Nat} {W : World} : ∀ (ds : List DV) (vs : List Value) (b : Nat), ArgsOkB bad W ds vs →
    ∃ β1 : Be, (∀ c, b ≤ c → c < inN ds b → ObjOk β1 (inH ds b) (inN ds b) W c ∧ (∃ n g, inH ds b c = .cells false true n g) ∧ (β1 c).blk ≠ bad) ∧ RVs β1 (inH ds b) (inN ds b) (inV ds b) vs
  | [], [], b, _ => ⟨fun _ => ⟨0, 0, 0⟩, fun c h1 h2 => by simp only [inN] at h2; omega, rfl, fun i hi => absurd hi (by simp [inV])⟩
  | [], _ :: _, _, h => h.elim
  | _ :: _, [], _, h => by cases h
  | d :: ds, v :: vs, b, h => by
    obtain ⟨h1, h2⟩ := h
    cases d with
    | zero j => exact h1.elim
    | v x =>
      obtain ⟨β1, g1, g2⟩ := local_relB ds vs b h2
      refine ⟨β1, g1, by simp [inV, g2.1], fun i hi => ?_⟩
      obtain ⟨hf, rfl⟩ := h1
      cases i with
      | zero => simpa [inV] using flat_refl hf
      | succ i => exact g2.2 i (by simpa [inV] using hi)
    | nil =>
      obtain ⟨β1, g1, g2⟩ := local_relB ds vs b h2
      refine ⟨β1, g1, by simp [inV, g2.1], fun i hi => ?_⟩
      have h1 : v = .slice none 0 0 := h1
      subst h1
      cases i with
      | zero => simpa [inV] using RV.sl0 0 0
      | succ i => exact g2.2 i (by simpa [inV] using hi)
    | sl es len c =>
      obtain ⟨β1, g1, g2⟩ := local_relB ds vs (b + 1) h2
      obtain ⟨he, ht, hok, bl, hbl, C, t, fz, q1, q2, q3, q4, q5⟩ := h1
      have hN : inN (.sl es len c :: ds) b = inN ds (b + 1) := rfl
      have hlt : b < inN ds (b + 1) := inN_le ds (b + 1)
      have ex : Ext β1 (inH ds (b + 1)) (inN ds (b + 1)) (upd β1 b bl) (inH (.sl es len c :: ds) b) (inN ds (b + 1)) := by
        refine ⟨Nat.le_refl _, fun c0 hc0 => ?_⟩
        by_cases e : c0 = b
        · subst e
          rw [show inH ds (c0 + 1) c0 = .none from local_rel.inH_low ds (c0 + 1) c0 (Nat.lt_succ_self _)]
          trivial
        · unfold ObjExt
          rw [show inH (.sl es len c :: ds) b c0 = inH ds (b + 1) c0 from upd_ne _ _ e, upd_ne _ _ e]
          cases inH ds (b + 1) c0 <;> simp
      refine ⟨upd β1 b bl, fun c0 h0 h3 => ?_, by simp [inV, g2.1], fun i hi => ?_⟩
      · by_cases e : c0 = b
        · subst e
          refine ⟨?_, ⟨_, _, upd_same _ _ _⟩, by rw [upd_same]; exact hbl⟩
          unfold ObjOk
          simp only [inH, upd_same]
          exact ⟨C, t, fz, q1, q2, q3, fun o ho => ⟨_, q4 o ho, flat0_refl (Cel.flat_of ht o)⟩, fun h => (by cases h), fun _ o _ => Cel.flat_of ht o, hok⟩
        · obtain ⟨g3, ⟨n, g, g4⟩, g5⟩ := g1 c0 (by omega) h3
          have e1 : inH (.sl es len c :: ds) b c0 = inH ds (b + 1) c0 := upd_ne _ _ e
          refine ⟨ObjOk.ext' (nb := inN ds (b + 1)) h3 ex e1 (upd_ne _ _ e) (fun m hm hmm => ?_) g3, ⟨n, g, by rw [e1]; exact g4⟩, by rw [upd_ne _ _ e]; exact g5⟩
          exact (local_rel.not_map ds (b + 1) m hmm).elim
      · cases i with
        | zero =>
          show RV _ _ _ (.slice (some ⟨b, 0, some (len * es)⟩) len es) v
          rcases q5 with ⟨cap, rfl, hl, hr⟩ | ⟨rfl, a', rfl⟩
          · refine .sl ⟨hlt, ?_⟩ ?_ hl
            · simp only [inH, upd_same]
              exact ⟨Nat.le_refl _, fun _ => rfl⟩
            · unfold RoomOk
              simp only [inH, upd_same]
              intro _; omega
          · exact .slz hlt
        | succ i =>
          exact (g2.2 i (by simpa [inV] using hi)).ext ex

theorem good_ofB {bad : Nat} {W : World} : ∀ (ds : List DV) (vs : List Value), ArgsOkB bad W ds vs → ∀ d ∈ ds, d.good
  | [], _, _, d, hd => by cases hd
  | d :: ds, [], h, _, _ => by cases h
  | d :: ds, v :: vs, h, x, hx => by
    rcases List.mem_cons.1 hx with rfl | hx
    · cases x with
      | v x => exact h.1.1
      | nil => trivial
      | sl es len c => exact ⟨h.1.1, h.1.2.1, h.1.2.2.1⟩
      | zero j => exact h.1.elim
    · exact good_ofB ds vs h.2 x hx

/-! ### Methods of a cursor: a block of three cells, the bytes, the place and the seed -/

def u8s (l : List Int) : Prop := ∀ x ∈ l, 0 ≤ x ∧ x ≤ 255

inductive Code8 where
  | nil
  | sl (o n len : Nat) (l : List Int)

def Code8.v : Code8 → Value
  | .nil => .slice none 0 0
  | .sl o n len _ => .slice (some ⟨0, o, some n⟩) len 1
def Code8.ob : Code8 → AObj
  | .nil => .none
  | .sl _ n _ l => .cells false true n (.ints .u8 l)
def Code8.good : Code8 → Prop
  | .nil => True
  | .sl o n len l => l.length = n ∧ o + len ≤ n ∧ u8s l

/-- The bytes of a cursor. -/
def codeK (H : Hp) (v : Value) (K : Value → Prop) : Prop :=
  match v with
  | .slice none 0 0 => K (.slice none 0 0)
  | .slice (some ⟨b, o, some n⟩) len 1 => match H b with
    | .cells _ _ n' (.ints .u8 l) => PreK (n = n' ∧ o + len ≤ n') (PreK (u8s l) (K (.slice (some ⟨b, o, some n⟩) len 1)))
    | _ => False
  | _ => False

def curSem {α : Type} (cost : Nat) (res : α → List DV) (Pre : List DV → Prop) (Post : List DV → α → Prop) : Sem1 := fun args H nb K =>
  match args with
  | .pointer (some ⟨b, 0, some n⟩) :: rest =>
    match H b with
    | .cells true _ n' g => chk (Nat.beq n 3 && Nat.beq n' 3 && rest.all (notB b)) (
      match g.at 1 with
      | .int .i64 a =>
        match g.at 2 with
        | .int .u64 _ => codeK H (g.at 0) fun v0 => PreK (0 ≤ a ∧ a + cost ≤ 1099511627776) (argsK H rest fun ds => PreK (Pre ds) (Hav3 (fun x a' => Post ds x ∧ a ≤ a' ∧ a' ≤ a + cost) fun x a' s' =>
            outK rest (res x) (upd H b (.cells true false 3 (.fn (listFn [v0, .int .i64 a', .int .u64 s'])))) nb fun vs H' nb' => retK vs fun v => K v H' nb' (Nat.min nb b)))
        | _ => False
      | _ => False)
    | _ => False
  | _ => False

def curH (c : Code8) (a s : Int) (ds : List DV) : Hp := upd (upd (inH ds 1) 0 c.ob) (inN ds 1) (.cells true false 3 (.fn (listFn [c.v, .int .i64 a, .int .u64 s])))

def curOut (c : Code8) (N : Nat) (a s : Int) (H : Hp) : Prop := H 0 = c.ob ∧ match H N with
  | .cells true _ n g => n = 3 ∧ g.at 0 = c.v ∧ g.at 1 = .int .i64 a ∧ g.at 2 = .int .u64 s
  | _ => False

theorem outK_tail {x : Value} {rest : List Value} : ∀ {rs : List DV} {H : Hp} {nb : Nat} {K : List Value → Hp → Nat → Prop}, (∀ d ∈ rs, ∀ j, d ≠ .zero j) → outK rest rs H nb K → outK (x :: rest) rs H nb K
  | [], _, _, _, _, h => h
  | .v _ :: rs, _, _, _, hz, h => outK_tail (rs := rs) (fun d hd => hz d (List.mem_cons_of_mem _ hd)) h
  | .nil :: rs, _, _, _, hz, h => outK_tail (rs := rs) (fun d hd => hz d (List.mem_cons_of_mem _ hd)) h
  | .sl _ _ _ :: rs, _, _, _, hz, h => outK_tail (rs := rs) (fun d hd => hz d (List.mem_cons_of_mem _ hd)) h
  | .zero j :: rs, _, _, _, hz, _ => (hz _ (List.mem_cons_self ..) j rfl).elim


theorem codeK_out {β : Be} {H : Hp} {nb : Nat} {W : World} (R : Rel Fb β H nb W) {v v' : Value} {K : Value → Prop} (hv : RV β H nb v v') (h : codeK H v K) :
    ∃ (c : Code8) (bc : Nat), c.good ∧ K v ∧ ((c = .nil ∧ v = .slice none 0 0) ∨ ∃ o n len l own fl, c = .sl o n len l ∧ v = .slice (some ⟨bc, o, some n⟩) len 1 ∧ bc < nb ∧ H bc = .cells own fl n (.ints .u8 l)) := by
  unfold codeK at h
  split at h
  · exact ⟨.nil, 0, trivial, h, .inl ⟨rfl, rfl⟩⟩
  · rename_i b o n len
    cases e : H b <;> rw [e] at h <;> try simp only at h
    all_goals first | exact h.elim | skip
    rename_i own fl n' g
    cases g <;> try simp only at h
    all_goals first | exact h.elim | skip
    rename_i k l
    cases k <;> try simp only at h
    all_goals first | exact h.elim | skip
    obtain ⟨⟨rfl, hle⟩, hu, hk⟩ := h
    have hb : b < nb := by
      cases hv with
      | slz hz => exact hz
      | sl ha _ _ => exact ha.1
    have hok : (Cel.ints .u8 l).ok n := argK_out.cel_ok R hv e
    exact ⟨.sl o n len l, b, ⟨hok, hle, hu⟩, hk, .inr ⟨o, n, len, l, own, fl, rfl, rfl, hb, e⟩⟩
  · exact h.elim

/-- **A METHOD OF A CURSOR**, known by what it does in memory of its own; 'ok': the codes that may be. -/
theorem cur_core (ok : Code8 → Prop) (hsl : ∀ o n len l, ok (.sl o n len l)) {E : Env} (hE : EnvOk P E) {f : Nat} {fn : Func} (hf : P.funcs[f]? = some fn) {α : Type} {cost : Nat} {res : α → List DV} {Pre : List DV → Prop} {Post : List DV → α → Prop}
    (hz : ∀ x, ∀ d ∈ res x, ∀ j, d ≠ .zero j)
    (h : ∀ (c : Code8) (ds : List DV) (a s : Int), ok c → c.good → Pre ds → (∀ d ∈ ds, d.good) → 0 ≤ a → a + cost ≤ 1099511627776 →
      abody E fn (.pointer (some ⟨inN ds 1, 0, some 3⟩) :: inV ds 1) (curH c a s ds) (inN ds 1 + 1) fun r H' _ lo => chk (Nat.ble (inN ds 1) lo) (∃ x a' s', (Post ds x ∧ a ≤ a' ∧ a' ≤ a + cost) ∧ curOut c (inN ds 1) a' s' H' ∧ resOk (inN ds 1 + 1) H' (res x) (unret r (res x).length) [] ∧ retK (unret r (res x).length) fun v => v = r)) : ∀ args H nb K, curSem cost res Pre Post args H nb K → (∀ b n rest own fl n' g, args = .pointer (some ⟨b, 0, some n⟩) :: rest → H b = .cells own fl n' g → g.at 0 = .slice none 0 0 → ok .nil) → ∀ Fb β W argsC, Rel Fb β H nb W → RVs β H nb args argsC →
    Calls P f ⟨argsC⟩ W fun e W' => ∃ r H' nb' lo β' v', K r H' nb' lo ∧ e = .returned v' ∧ RV β' H' nb' r v' ∧ Rel Fb β' H' nb' W' ∧ Foot W nb β H lo β' H' nb' W' := by
  intro args H nb K hk hcode Fb β W argsC R ha
  unfold curSem at hk
  split at hk
  case h_2 => exact hk.elim
  rename_i b n rest
  cases eb : H b <;> rw [eb] at hk <;> try simp only at hk
  all_goals first | exact hk.elim | skip
  rename_i own fl n' g
  cases own
  · exact hk.elim
  have hk2 := chk_out hk
  clear hk
  obtain ⟨hn, hk⟩ := hk2
  simp only [Bool.and_eq_true] at hn
  obtain ⟨⟨hn1, hn2⟩, hnb⟩ := hn
  obtain rfl := Nat.eq_of_beq_eq_true hn1
  obtain rfl := Nat.eq_of_beq_eq_true hn2
  split at hk
  case h_2 => exact hk.elim
  rename_i a hg1
  split at hk
  case h_2 => exact hk.elim
  rename_i s hg2
  -- the arguments
  obtain ⟨p', restC, rfl⟩ : ∃ p' restC, argsC = p' :: restC := by
    cases argsC with
    | nil => have := ha.1; simp at this
    | cons p' restC => exact ⟨p', restC, rfl⟩
  have hp : RV β H nb (.pointer (some ⟨b, 0, some 3⟩)) p' := by simpa using ha.2 0 (by simp)
  have hrest : RVs β H nb rest restC := ⟨by simpa using ha.1, fun i hi => by simpa using ha.2 (i + 1) (by simpa using hi)⟩
  obtain ⟨hb, hp'⟩ : b < nb ∧ p' = .pointer (some ⟨(β b).blk, (β b).sh + 0, none⟩) := by
    cases hp with
    | ptr h =>
      obtain ⟨h1, h2⟩ := h
      rw [eb] at h2
      exact ⟨h1, by rw [h2.2 rfl]⟩
  have hob := R.objs b hb
  unfold ObjOk at hob
  rw [eb] at hob
  obtain ⟨C, t, fz, q1, q2, q3, q4, q5, q6, q7⟩ := hob
  obtain ⟨w0, r0, rv0⟩ := q4 0 (by omega)
  obtain ⟨w1, r1, rv1⟩ := q4 1 (by omega)
  obtain ⟨w2, r2, rv2⟩ := q4 2 (by omega)
  rw [hg1] at rv1
  rw [hg2] at rv2
  obtain ⟨c, bc, hcg, hk, hcv⟩ := codeK_out R rv0 hk
  have hokc : ok c := by
    rcases hcv with ⟨rfl, e0⟩ | ⟨o, n, len, l, own, fl', rfl, _⟩
    · exact hcode _ _ _ _ _ _ _ rfl eb e0
    · exact hsl _ _ _ _
  obtain ⟨⟨ha0, hatop⟩, hk⟩ := hk
  have hown : isOwn (H b) = true := by rw [eb]; rfl
  have hnon : isNone (H b) = false := by rw [eb]; rfl
  obtain ⟨ds, ⟨hpre, hk⟩, hds⟩ := argsK_outB R hb hown hnb hrest hk
  obtain ⟨hk⟩ := hk
  obtain ⟨β1, g1, g2⟩ := local_relB ds restC 1 hds
  have hbcb : ∀ {o n len l own fl}, (g.at 0 = .slice (some ⟨bc, o, some n⟩) len 1) → H bc = .cells own fl n (.ints .u8 l) → bc ≠ b := fun {o n len l own fl} e0 e1 he => by
    subst he
    rw [eb] at e1
    simp only [AObj.cells.injEq] at e1
    rw [e1.2.2.2] at e0
    cases e0
  let N := inN ds 1
  have hN1 : 1 ≤ N := inN_le ds 1
  let β2 : Be := upd (upd β1 0 (β bc)) N (β b)
  have e2N : β2 N = β b := upd_same _ _ _
  have e20 : β2 0 = β bc := by
    show upd (upd β1 0 (β bc)) N (β b) 0 = _
    rw [upd_ne _ _ (by omega), upd_same]
  have e2x : ∀ x, x ≠ 0 → x ≠ N → β2 x = β1 x := fun x h0 h1 => by
    show upd (upd β1 0 (β bc)) N (β b) x = _
    rw [upd_ne _ _ h1, upd_ne _ _ h0]
  let H1 : Hp := curH c a s ds
  have eHN : H1 N = .cells true false 3 (.fn (listFn [c.v, .int .i64 a, .int .u64 s])) := upd_same _ _ _
  have eH0 : H1 0 = c.ob := by
    show upd (upd (inH ds 1) 0 c.ob) N _ 0 = _
    rw [upd_ne _ _ (by omega), upd_same]
  have eHx : ∀ x, x ≠ 0 → x ≠ N → H1 x = inH ds 1 x := fun x h0 h1 => by
    show upd (upd (inH ds 1) 0 c.ob) N _ x = _
    rw [upd_ne _ _ h1, upd_ne _ _ h0]
  have inh0 : inH ds 1 0 = .none := local_rel.inH_low ds 1 0 (by omega)
  have ex1 : Ext β1 (inH ds 1) N β2 H1 (N + 1) := by
    refine ⟨Nat.le_succ _, fun x hx => ?_⟩
    by_cases h0 : x = 0
    · subst h0; unfold ObjExt; rw [inh0]; trivial
    · have hxN : x ≠ N := by omega
      unfold ObjExt
      rw [eHx x h0 hxN, e2x x h0 hxN]
      cases inH ds 1 x <;> simp
  -- the slice of bytes in its own memory
  have hcode : RV β2 H1 (N + 1) c.v w0 := by
    rcases hcv with ⟨rfl, e0⟩ | ⟨o, n, len, l, own, fl', rfl, e0, hbc, ebc⟩
    · rw [e0] at rv0
      cases rv0; exact .sl0 _ _
    · rw [e0] at rv0
      cases rv0 with
      | @sl _ a' _ _ cap h hr hl =>
        obtain ⟨h1, h2⟩ := h
        rw [ebc] at h2
        refine .sl ⟨by omega, ?_⟩ ?_ hl
        · rw [eH0]
          exact ⟨h2.1, fun he => by rw [e20]; exact h2.2 he⟩
        · unfold RoomOk at hr ⊢
          simp only [ebc] at hr
          simp only [eH0, Code8.ob, e20]
          exact hr
      | slz h => exact .slz (by show 0 < N + 1; omega)
  have R1 : Rel Fb β2 H1 (N + 1) W := by
    refine ⟨fun x hx => ?_, fun x y hx hy hne ho hn => ?_, R.floor.to (Nat.le_refl _) (fun _ _ _ => rfl) fun x hx ho => ?_⟩
    · by_cases h0 : x = 0
      · subst h0
        unfold ObjOk
        rw [eH0]
        rcases hcv with ⟨rfl, e0⟩ | ⟨o, n, len, l, own, fl', rfl, e0, hbc, ebc⟩
        · trivial
        · have hoc := R.objs bc hbc
          unfold ObjOk at hoc
          rw [ebc] at hoc
          obtain ⟨C2, t2, fz2, p1, p2, p3, p4, p5, p6, p7⟩ := hoc
          simp only [Code8.ob, e20]
          refine ⟨C2, t2, fz2, p1, p2, p3, fun o ho => ?_, fun h => (by cases h), fun _ o _ => rfl, p7⟩
          obtain ⟨v', s1, s2⟩ := p4 o ho
          refine ⟨v', s1, ?_⟩
          cases s2; exact .int _ _
      · by_cases hxN : x = N
        · subst hxN
          unfold ObjOk
          rw [eHN]
          simp only [e2N]
          refine ⟨C, t, fz, q1, q2, q3, fun o ho => ?_, fun _ => q5 rfl, fun h => (by cases h), trivial⟩
          match o, ho with
          | 0, _ => exact ⟨w0, r0, hcode⟩
          | 1, _ => exact ⟨w1, r1, by cases rv1; exact .int _ _⟩
          | 2, _ => exact ⟨w2, r2, by cases rv2; exact .int _ _⟩
        · have hx' : x < N := by omega
          obtain ⟨g3, _, _⟩ := g1 x (by omega) hx'
          exact ObjOk.ext' hx' ex1 (eHx x h0 hxN) (e2x x h0 hxN) (fun m hm hmm => (local_rel.not_map ds 1 m hmm).elim) g3
    · have hxN : x = N := by
        by_cases hxN : x = N
        · exact hxN
        · by_cases h0 : x = 0
          · subst h0
            rw [eH0] at ho
            cases c <;> simp [Code8.ob, isOwn] at ho
          · obtain ⟨_, ⟨n, gg, h3⟩, _⟩ := g1 x (by omega) (by omega)
            rw [eHx x h0 hxN, h3] at ho
            cases ho
      subst hxN
      rw [e2N]
      by_cases h0 : y = 0
      · subst h0
        rw [e20]
        rcases hcv with ⟨rfl, e0⟩ | ⟨o, n, len, l, own, fl', rfl, e0, hbc, ebc⟩
        · rw [eH0] at hn; cases hn
        · exact R.inj b bc hb hbc (Ne.symm (hbcb e0 ebc)) hown (by rw [ebc]; rfl)
      · obtain ⟨_, _, h3⟩ := g1 y (by omega) (by omega)
        rw [e2x y h0 (Ne.symm hne)]
        exact Ne.symm h3
    · have hxN : x = N := by
        by_cases hxN : x = N
        · exact hxN
        · by_cases h0 : x = 0
          · subst h0
            rw [eH0] at ho
            cases c <;> simp [Code8.ob, isOwn] at ho
          · obtain ⟨_, ⟨n, gg, h3⟩, _⟩ := g1 x (by omega) (by omega)
            rw [eHx x h0 hxN, h3] at ho
            cases ho
      subst hxN
      exact .inl ⟨b, hb, hown, by rw [e2N]⟩
  have hargs : RVs β2 H1 (N + 1) (.pointer (some ⟨N, 0, some 3⟩) :: inV ds 1) (p' :: restC) := by
    refine .cons ?_ (g2.ext ex1)
    rw [hp']
    refine .ptr ⟨by omega, ?_⟩
    rw [eHN]
    exact ⟨Nat.le_refl _, fun _ => by rw [e2N]⟩
  have hbody := h c ds a s hokc hcg hpre (good_ofB ds restC hds) ha0 hatop
  refine (abody_sound hE hf _ _ _ _ hbody Fb β2 W (p' :: restC) R1 hargs).mono ?_
  rintro e' W' ⟨r, H', nb', lo, β', v', k0, m2, m3, m4, m5⟩
  obtain ⟨k1, x, a', s', ⟨hpost, hle1, hle2⟩, ⟨k20, k2⟩, k3, k4⟩ := chk_out k0
  have hlo : N ≤ lo := by simpa using k1
  have hnb' : N < nb' := Nat.lt_of_lt_of_le (Nat.lt_succ_self _) m5.ext.le
  change (match H' N with | .cells true _ n g => n = 3 ∧ g.at 0 = c.v ∧ g.at 1 = .int .i64 a' ∧ g.at 2 = .int .u64 s' | _ => False) at k2
  cases eN : H' N <;> rw [eN] at k2 <;> try simp only at k2
  all_goals first | exact k2.elim | skip
  rename_i own0 fl0 n0 gg
  cases own0
  · exact k2.elim
  obtain ⟨rfl, kc0, kc1, kc2⟩ := k2
  have hx : ObjExt β2 β' N (H1 N) (H' N) := m5.ext.obj N (Nat.lt_succ_self _)
  unfold ObjExt at hx
  rw [eHN, eN] at hx
  have hβN : β' N = β b := by rw [hx.2 (by trivial), e2N]
  have hob' := m4.objs N hnb'
  unfold ObjOk at hob'
  rw [eN, hβN] at hob'
  obtain ⟨C', t', fz', p1, p2, p3, p4, p5, p6, p7⟩ := hob'
  have keep : ∀ i, i < W.heap.size → i ≠ (β b).blk → W'.heap[i]? = W.heap[i]? := fun i hi hne => m5.keep i hi fun x h1 h2 => by
    have : x = N := by omega
    rw [this, e2N]
    exact Ne.symm hne
  obtain ⟨u0, s0, sv0⟩ := p4 0 (by omega)
  obtain ⟨u1, s1, sv1⟩ := p4 1 (by omega)
  obtain ⟨u2, s2, sv2⟩ := p4 2 (by omega)
  rw [kc0] at sv0
  rw [kc1] at sv1
  rw [kc2] at sv2
  let cur' : AObj := .cells true false 3 (.fn (listFn [g.at 0, .int .i64 a', .int .u64 s']))
  have ex2 : Ext β H nb β (upd H b cur') nb := by
    refine ⟨Nat.le_refl _, fun x hx => ?_⟩
    unfold ObjExt
    by_cases e : x = b
    · subst e; rw [upd_same, eb]; exact ⟨Nat.le_refl _, fun _ => rfl⟩
    · rw [upd_ne _ _ e]; cases H x <;> simp
  have hcode' : RV β (upd H b cur') nb (g.at 0) u0 := by
    rcases hcv with ⟨rfl, e0⟩ | ⟨o, n, len, l, own, fl', rfl, e0, hbc, ebc⟩
    · rw [e0]
      cases sv0; exact .sl0 _ _
    · rw [e0]
      have hne := hbcb e0 ebc
      have hx0 : ObjExt β2 β' 0 (H1 0) (H' 0) := m5.ext.obj 0 (by omega)
      unfold ObjExt at hx0
      rw [eH0, k20] at hx0
      have hβ0 : β' 0 = β bc := by rw [← e20]; exact hx0.2 rfl
      cases sv0 with
      | @sl _ a' _ _ cap h hr hl =>
        obtain ⟨h1, h2⟩ := h
        rw [k20] at h2
        refine .sl ⟨hbc, ?_⟩ ?_ hl
        · rw [upd_ne _ _ hne, ebc]
          exact ⟨h2.1, fun he => by rw [← hβ0]; exact h2.2 he⟩
        · unfold RoomOk at hr ⊢
          simp only [k20, Code8.ob, hβ0] at hr
          simp only [upd_ne _ _ hne, ebc]
          exact hr
      | slz h => exact .slz hbc
  have R2 : Rel Fb β (upd H b cur') nb W' := by
    refine ⟨fun x hx => ?_, fun x y hx hy hne ho hn => ?_, R.floor.to m5.size (fun j hj hk => keep j hj (hk b hb hown).symm) fun x hx2 ho => ?_⟩
    rotate_left
    rotate_left
    · by_cases e : x = b
      · subst e; exact .inl ⟨x, hx2, hown, rfl⟩
      · rw [upd_ne _ _ e] at ho; exact .inl ⟨x, hx2, ho, rfl⟩
    · by_cases e : x = b
      · subst e
        unfold ObjOk
        simp only [upd_same, cur']
        refine ⟨C', t', fz', p1, p2, p3, fun o ho => ?_, fun _ => p5 (by trivial), fun h => (by cases h), trivial⟩
        match o, ho with
        | 0, _ => exact ⟨u0, s0, hcode'⟩
        | 1, _ => exact ⟨u1, s1, by cases sv1; exact .int _ _⟩
        | 2, _ => exact ⟨u2, s2, by cases sv2; exact .int _ _⟩
      · cases hnx : isNone (H x) with
        | true => unfold ObjOk; rw [upd_ne _ _ e]; cases e2 : H x <;> rw [e2] at hnx <;> first | trivial | (cases hnx)
        | false =>
          have hlt := R.lt hx hnx
          have hne : (β x).blk ≠ (β b).blk := (R.inj b x hb hx (Ne.symm e) hown hnx).symm
          have hk := keep _ hlt hne
          have h0 := R.objs x hx
          have h0' : ObjOk β H nb W' x := by
            unfold ObjOk at h0 ⊢
            cases e2 : H x <;> simp only [e2] at h0 ⊢
            · rw [hk]; exact h0
            · rw [hk]; exact h0
            · rename_i m nn seen
              obtain ⟨s, l, S, z1, z2, z3, E', clk, z4, z5⟩ := h0
              have hmb : m ≠ b := fun he => by subst he; rw [eb] at z3; cases z3
              have hmn : isNone (H m) = false := by cases e3 : H m <;> rw [e3] at z3 <;> first | rfl | (cases z3)
              have hmlt := R.lt z2 hmn
              have hmne : (β m).blk ≠ (β b).blk := (R.inj b m hb z2 (Ne.symm hmb) hown hmn).symm
              exact ⟨s, l, S, by rw [hk]; exact z1, z2, z3, E', clk, by rw [keep _ hmlt hmne]; exact z4, z5⟩
          exact ObjOk.ext' hx ex2 (upd_ne _ _ e) rfl (fun m _ hm => ⟨upd_ne _ _ (fun he => by subst he; rw [eb] at hm; cases hm), rfl⟩) h0'
    · have ko : isOwn (H x) = true := by
        by_cases e : x = b
        · subst e; exact hown
        · rwa [upd_ne _ _ e] at ho
      have kn : isNone (H y) = false := by
        by_cases e : y = b
        · subst e; exact hnon
        · rwa [upd_ne _ _ e] at hn
      exact R.inj x y hx hy hne ko kn
  have A : Adopt Fb W W' β (upd H b cur') nb (N + 1) β' H' nb' β (upd H b cur') nb [] := ⟨Nat.le_refl _, R2, fun _ _ => ⟨rfl, rfl⟩, fun c h h' => by omega⟩
  have ha2 : RVs β (upd H b cur') nb (.pointer (some ⟨b, 0, some 3⟩) :: rest) (p' :: restC) := ha.ext ex2
  have hlt2 : ∀ x, x < nb → isNone (upd H b cur' x) = false → (β x).blk < W.heap.size := fun x hx hn => by
    by_cases e : x = b
    · subst e; exact R.lt hb hnon
    · rw [upd_ne _ _ e] at hn; exact R.lt hx hn
  obtain ⟨vs', k5, k6⟩ := ret_values m3 k4
  obtain ⟨ws, β3, H3, nb3, u3, n1, n2, n3, n4⟩ := adopt_all ha2 hlt2 m4 m5 (res x) _ vs' [] β _ nb _ A k5 k3 (outK_tail (hz x) (hk x a' s' ⟨hpost, hle1, hle2⟩))
  obtain ⟨w, n5, n6⟩ := k6 n3 n1
  refine ⟨w, H3, nb3, _, β3, v', n5, m2, n6, n2.rel, ⟨m5.size, fun i hi hne => keep i hi fun he => hne b (Nat.min_le_right _ _) hb he.symm, fun x hx => ?_, Nat.min_le_left _ _, ex2.trans n4, m5.same⟩⟩
  rcases Nat.lt_or_ge x nb with h9 | h9
  · exact .inl ⟨h9, (n2.old x h9).1⟩
  · obtain ⟨b0, _, l2, l3, _, l5⟩ := n2.new x h9 hx
    right
    rw [l5]
    rcases m5.new b0 l2 with h | h
    · omega
    · exact h

theorem cur_sound {E : Env} (hE : EnvOk P E) {f : Nat} {fn : Func} (hf : P.funcs[f]? = some fn) {α : Type} {cost : Nat} {res : α → List DV} {Pre : List DV → Prop} {Post : List DV → α → Prop}
    (hz : ∀ x, ∀ d ∈ res x, ∀ j, d ≠ .zero j)
    (h : ∀ (c : Code8) (ds : List DV) (a s : Int), c.good → Pre ds → (∀ d ∈ ds, d.good) → 0 ≤ a → a + cost ≤ 1099511627776 →
      abody E fn (.pointer (some ⟨inN ds 1, 0, some 3⟩) :: inV ds 1) (curH c a s ds) (inN ds 1 + 1) fun r H' _ lo => chk (Nat.ble (inN ds 1) lo) (∃ x a' s', (Post ds x ∧ a ≤ a' ∧ a' ≤ a + cost) ∧ curOut c (inN ds 1) a' s' H' ∧ resOk (inN ds 1 + 1) H' (res x) (unret r (res x).length) [] ∧ retK (unret r (res x).length) fun v => v = r)) : SoundW P f (curSem cost res Pre Post) :=
  fun args H nb K hk => cur_core (fun _ => True) (fun _ _ _ _ => trivial) hE hf hz (fun c ds a s _ => h c ds a s) args H nb K hk fun _ _ _ _ _ _ _ _ _ _ => trivial

/-- The same of codes that are slices. -/
def curSemS {α : Type} (cost : Nat) (res : α → List DV) (Pre : List DV → Prop) (Post : List DV → α → Prop) : Sem1 := fun args H nb K =>
  match args with
  | .pointer (some ⟨b, _, _⟩) :: _ => match H b with
    | .cells _ _ _ g => match g.at 0 with
      | .slice (some _) _ _ => curSem cost res Pre Post args H nb K
      | _ => False
    | _ => False
  | _ => False

theorem cur_soundS {E : Env} (hE : EnvOk P E) {f : Nat} {fn : Func} (hf : P.funcs[f]? = some fn) {α : Type} {cost : Nat} {res : α → List DV} {Pre : List DV → Prop} {Post : List DV → α → Prop}
    (hz : ∀ x, ∀ d ∈ res x, ∀ j, d ≠ .zero j)
    (h : ∀ (co cn cl : Nat) (cb : List Int) (ds : List DV) (a s : Int), (Code8.sl co cn cl cb).good → Pre ds → (∀ d ∈ ds, d.good) → 0 ≤ a → a + cost ≤ 1099511627776 →
      abody E fn (.pointer (some ⟨inN ds 1, 0, some 3⟩) :: inV ds 1) (curH (.sl co cn cl cb) a s ds) (inN ds 1 + 1) fun r H' _ lo => chk (Nat.ble (inN ds 1) lo) (∃ x a' s', (Post ds x ∧ a ≤ a' ∧ a' ≤ a + cost) ∧ curOut (.sl co cn cl cb) (inN ds 1) a' s' H' ∧ resOk (inN ds 1 + 1) H' (res x) (unret r (res x).length) [] ∧ retK (unret r (res x).length) fun v => v = r)) : SoundW P f (curSemS cost res Pre Post) := by
  intro args H nb K hk
  unfold curSemS at hk
  split at hk
  case h_2 => exact hk.elim
  rename_i b o n rest
  cases eb : H b <;> rw [eb] at hk <;> try simp only at hk
  all_goals first | exact hk.elim | skip
  rename_i own fl n' g
  split at hk
  case h_2 => exact hk.elim
  rename_i a' l' e' hg
  refine cur_core (fun c => c ≠ .nil) (fun _ _ _ _ h => by cases h) hE hf hz (fun c ds a s hc => by
    cases c with
    | nil => exact absurd rfl hc
    | sl co cn cl cb => exact h co cn cl cb ds a s) _ H nb K hk ?_
  intro b2 n2 rest2 own2 fl2 n3 g2 e1 e2 e3
  simp only [List.cons.injEq, Value.pointer.injEq, Option.some.injEq, Addr.mk.injEq] at e1
  obtain ⟨⟨rfl, _⟩, _⟩ := e1
  rw [eb] at e2
  simp only [AObj.cells.injEq] at e2
  rw [← e2.2.2.2, hg] at e3
  cases e3

def Ent.cur {P : Program} {α : Type} (f : Nat) (cost : Nat) (res : α → List DV) (Pre : List DV → Prop) (Post : List DV → α → Prop) (h : Enters P f) (hs : SoundW P f (curSem cost res Pre Post)) : Ent P := .wide f (curSem cost res Pre Post) h hs

def Ent.curS {P : Program} {α : Type} (f : Nat) (cost : Nat) (res : α → List DV) (Pre : List DV → Prop) (Post : List DV → α → Prop) (h : Enters P f) (hs : SoundW P f (curSemS cost res Pre Post)) : Ent P := .wide f (curSemS cost res Pre Post) h hs

end Go.Eng
