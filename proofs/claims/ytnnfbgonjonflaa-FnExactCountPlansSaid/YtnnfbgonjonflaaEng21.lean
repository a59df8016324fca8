/- A part of the interpreter of Go code, and of the proof that it says what Go does; no condition. -/
import Derived.Test.YtnnfbgonjonflaaEng13
/-! A region that draws its order and has two operations that write and wait not for each other: whatever order is drawn, one of the two stands ahead; so it is enough to walk the region with the one edge and with the other. -/
set_option linter.unusedSimpArgs false
set_option linter.unusedVariables false
namespace Go.Eng
variable {Fb : Nat}
variable {P : Program} {ops : Array Oper} {Q : Exit → Act → World → Prop}

/-- The orders that the region may draw. -/
def Run (ops : Array Oper) : Nat → Array Bool → List Nat → Prop
  | 0, _, L => L = []
  | fuel + 1, listed, L => (L = [] ∧ Region.ready .any ops listed = []) ∨ ∃ i L', L = i :: L' ∧ i ∈ Region.ready .any ops listed ∧ Run ops fuel (listed.setIfInBounds i true) L'

theorem run_lin : ∀ (fuel t : Nat) (listed : Array Bool), Run ops fuel listed (Region.linearise.go .any ops fuel t listed [])
  | 0, _, _ => by simp [Region.linearise.go, Run]
  | fuel + 1, t, listed => by
    simp only [Region.linearise.go]
    change Run ops (fuel + 1) listed (match (Region.ready .any ops listed)[t % (Region.ready .any ops listed).length]? with
      | some i => Region.linearise.go .any ops fuel (t / (Region.ready .any ops listed).length) (listed.setIfInBounds i true) [i]
      | none => [].reverse)
    cases hi : (Region.ready .any ops listed)[t % (Region.ready .any ops listed).length]? with
    | none =>
      have hnil : Region.ready .any ops listed = [] := by
        cases hr : Region.ready .any ops listed with
        | nil => rfl
        | cons x xs =>
          rw [hr] at hi
          have hlt : t % (x :: xs).length < (x :: xs).length := Nat.mod_lt _ (by simp)
          simp at hi
          simp at hlt
          omega
      exact .inl ⟨rfl, hnil⟩
    | some i =>
      simp only []
      rw [linearise_go_acc, List.reverse_singleton, List.singleton_append]
      exact .inr ⟨i, _, rfl, List.mem_of_getElem? hi, run_lin fuel _ _⟩

/-- Whatever order is drawn. -/
def AllRuns (P : Program) (ops : Array Oper) (Q : Exit → Act → World → Prop) (fuel : Nat) (listed : Array Bool) (a : Act) (w : World) : Prop := ∀ L, Run ops fuel listed L → wpOps P ops Q L a w

theorem allRuns_of : ∀ (fuel : Nat) (listed : Array Bool) (a : Act) (w : World), wpAny P .any ops Q fuel listed a w → AllRuns P ops Q fuel listed a w
  | 0, listed, a, w, h, L, hL => by
    obtain rfl : L = [] := hL
    exact h.2
  | fuel + 1, listed, a, w, h, L, hL => by
    rcases hL with ⟨rfl, hr⟩ | ⟨i, L', rfl, hi, hL'⟩
    · exact h.1 hr
    · rw [wpOps_cons]
      exact wpOp_mono (fun a' w' h' => allRuns_of fuel _ a' w' h' L' hL') (h.2 i hi)

theorem region_runs {id : Nat} {a : Act} {w : World} (hm : P.follows .mixedOrders = true)
    (h : AllRuns P ops Q ops.size (Array.replicate ops.size false) a { w with drawn := w.drawn + 1 }) : (Code.region id ops true).wp P Q a w :=
  wp_region_draw fun t => by
    simp only [Region.schedule, hm, Bool.true_or, if_true]
    exact h _ (run_lin ops.size t _)

theorem behind_at (ops : Array Oper) (i j k : Nat) : (behind ops i j)[k]? = if i = k then (ops[k]?).map (fun o => { o with after := o.after.push ⟨j, .data⟩ }) else ops[k]? := by
  unfold behind
  rw [Array.getElem?_modify]

theorem wpOp_behind {i j k : Nat} {K : Act → World → Prop} {a : Act} {w : World} (h : wpOp P (behind ops i j) Q k K a w) : wpOp P ops Q k K a w := by
  have hy : ∀ t, yielded (behind ops i j) t = yielded ops t := fun t => by
    funext x
    unfold yielded
    rw [behind_at]
    by_cases e : i = x
    · rw [if_pos e]; cases ops[x]? <;> rfl
    · rw [if_neg e]
  unfold wpOp at *
  rw [behind_at, hy] at h
  by_cases e : i = k
  · rw [if_pos e] at h
    cases ho : ops[k]? <;> rw [ho] at h
    · exact h
    · exact h
  · rw [if_neg e] at h
    exact h

theorem wpOps_behind {i j : Nat} : ∀ (L : List Nat) {a : Act} {w : World}, wpOps P (behind ops i j) Q L a w → wpOps P ops Q L a w
  | [], _, _, h => h
  | k :: L, a, w, h => by
    rw [wpOps_cons] at h ⊢
    exact wpOp_mono (fun _ _ h => wpOps_behind L h) (wpOp_behind h)

theorem ready_behind {i j k : Nat} {listed : Array Bool} : k ∈ Region.ready .any (behind ops i j) listed ↔ k ∈ Region.ready .any ops listed ∧ (k = i → listed.getD j false = true) := by
  rw [mem_ready, mem_ready, behind_at]
  by_cases e : i = k
  · subst e
    rw [if_pos rfl]
    constructor
    · rintro ⟨h1, o, ho, h2⟩
      cases h3 : ops[i]? with
      | none => rw [h3] at ho; cases ho
      | some o' =>
        rw [h3] at ho
        cases ho
        refine ⟨⟨h1, o', rfl, fun e he => h2 e (by simp [he])⟩, fun _ => h2 ⟨j, .data⟩ (by simp) rfl⟩
    · rintro ⟨⟨h1, o, ho, h2⟩, h3⟩
      rw [ho]
      refine ⟨h1, _, rfl, fun e he hb => ?_⟩
      simp only [Array.mem_push] at he
      rcases he with he | rfl
      · exact h2 e he hb
      · exact h3 rfl
  · rw [if_neg e]
    exact ⟨fun h => ⟨h, fun h' => absurd h'.symm e⟩, fun h => h.1⟩

theorem getD_set_true {listed : Array Bool} {j k : Nat} (h : listed.getD j false = true) : (listed.setIfInBounds k true).getD j false = true := by
  simp only [Array.getD_eq_getD_getElem?, Array.getElem?_setIfInBounds] at h ⊢
  split
  · split <;> simp_all
  · exact h

/-- 'j' is done: the edge says nothing more. -/
theorem run_done {i j : Nat} : ∀ (fuel : Nat) (listed : Array Bool) (L : List Nat), listed.getD j false = true → Run ops fuel listed L → Run (behind ops i j) fuel listed L
  | 0, _, _, _, h => h
  | fuel + 1, listed, L, hj, h => by
    rcases h with ⟨rfl, hr⟩ | ⟨k, L', rfl, hk, hL'⟩
    · refine .inl ⟨rfl, ?_⟩
      rw [List.eq_nil_iff_forall_not_mem] at hr ⊢
      exact fun k hk => hr k (ready_behind.1 hk).1
    · exact .inr ⟨k, L', rfl, ready_behind.2 ⟨hk, fun _ => hj⟩, run_done fuel _ _ (getD_set_true hj) hL'⟩

theorem run_split {i j : Nat} (hne : i ≠ j) : ∀ (fuel : Nat) (listed : Array Bool) (L : List Nat), Run ops fuel listed L → Run (behind ops i j) fuel listed L ∨ Run (behind ops j i) fuel listed L
  | 0, _, _, h => .inl h
  | fuel + 1, listed, L, h => by
    rcases h with ⟨rfl, hr⟩ | ⟨k, L', rfl, hk, hL'⟩
    · refine .inl (.inl ⟨rfl, ?_⟩)
      rw [List.eq_nil_iff_forall_not_mem] at hr ⊢
      exact fun k hk => hr k (ready_behind.1 hk).1
    · have hlt : k < listed.size := by
        have := (mem_ready.1 hk).1
        rcases Nat.lt_or_ge k listed.size with h | h
        · exact h
        · simp [Nat.not_lt.mpr h] at this
      have hset : (listed.setIfInBounds k true).getD k false = true := by simp [hlt]
      by_cases ei : k = i
      · subst ei
        exact .inr (.inr ⟨k, L', rfl, ready_behind.2 ⟨hk, fun e => absurd e hne⟩, run_done fuel _ _ hset hL'⟩)
      · by_cases ej : k = j
        · subst ej
          exact .inl (.inr ⟨k, L', rfl, ready_behind.2 ⟨hk, fun e => absurd e ei⟩, run_done fuel _ _ hset hL'⟩)
        · exact (run_split hne fuel _ L' hL').imp (fun h => .inr ⟨k, L', rfl, ready_behind.2 ⟨hk, fun e => absurd e ei⟩, h⟩) (fun h => .inr ⟨k, L', rfl, ready_behind.2 ⟨hk, fun e => absurd e ej⟩, h⟩)

/-- **TWO THAT WAIT NOT FOR EACH OTHER**: the one first, or the other. -/
theorem allRuns_split {i j : Nat} (hne : i ≠ j) {fuel : Nat} {listed : Array Bool} {a : Act} {w : World} (hA : AllRuns P (behind ops i j) Q fuel listed a w) (hB : AllRuns P (behind ops j i) Q fuel listed a w) : AllRuns P ops Q fuel listed a w := fun L hL =>
  (run_split hne fuel listed L hL).elim (fun h => wpOps_behind L (hA L h)) (fun h => wpOps_behind L (hB L h))
variable {P : Program} {E : Env} {l0 : Nat} {W0 : World} {nb0 : Nat} {β0 : Be} {H0 : Hp}
/-- A region that draws its order, from its beginning: whatever order is drawn. -/
theorem draw_runs {ops : Array Oper} {Q : Exit → Act → World → Prop} {K : St → Prop} {l cf : List (Nat × List Nat)} {s : St} {β : Be} {a : Act} {w : World} (hE : EnvOk P E) (hd : DrawOk E.T E.isK ops l cf) (h : aopsC E ops cf l s K)
    (I : Inv Fb E.N l0 W0 nb0 β0 H0 s β a w) (hQ : ∀ s β a w, K s → Inv Fb E.N l0 W0 nb0 β0 H0 s β a w → Q .normal a w) : AllRuns P ops (fun e a w => e = .normal ∧ Q .normal a w) ops.size (Array.replicate ops.size false) a { w with drawn := w.drawn + 1 } := by
  unfold DrawOk drawOkB at hd
  simp only [Bool.and_eq_true, decide_eq_true_eq, List.all_eq_true, List.mem_range] at hd
  obtain ⟨⟨⟨⟨⟨⟨⟨⟨h1, h9⟩, h2⟩, h3⟩, h8⟩, h4⟩, h5⟩, h6⟩, h7⟩ := hd
  have h4 := Nat.eq_of_beq_eq_true h4
  have mem : ∀ i, i < ops.size → i ∈ l.map (·.1) := fun i hi => by simpa using h5 i hi
  have hlt : ∀ c ∈ l.map (·.1), c < ops.size := fun c hc => by simpa using h8 c hc
  have hu : unl (Array.replicate ops.size false) (l.map (·.1)) = ops.size := by
    have key : ∀ m : List Nat, (∀ c ∈ m, c < ops.size) → unl (Array.replicate ops.size false) m = m.length := by
      intro m
      induction m with
      | nil => intro _; rfl
      | cons c m ih =>
        intro hm
        have hc := hm c (List.mem_cons_self ..)
        unfold unl
        rw [ih fun x hx => hm x (List.mem_cons_of_mem _ hx)]
        simp [hc]
    rw [key _ hlt]; simpa using h4
  have nol : ∀ c ∈ l.map (·.1), (Array.replicate ops.size false).getD c true = true → False := fun c hc hh => by
    have := hlt c hc
    simp [this] at hh
  have I1 := I.keep (keeps_drew w)
  obtain ⟨s1, hs1, I2, e1, e2⟩ := atC_out I1 h
  have main := draw_out (Q := fun e a w => e = .normal ∧ Q .normal a w) (K := K) hE h1 (fun i o t ho he => by
      have := h2 o (Array.mem_toList_iff.2 (Array.mem_of_getElem? ho))
      simp only [he] at this
      cases e : E.T t with
      | none => rw [e] at this; cases this
      | some ti => exact ⟨ti, rfl⟩) (fun i o ho hk => by
      have := h9 o (Array.mem_toList_iff.2 (Array.mem_of_getElem? ho))
      rw [hk] at this
      simpa using this) (fun _ _ _ hh => by cases hh.1) (fun s β a w hk I => ⟨rfl, hQ s β a w hk I⟩)
    _ l (Array.replicate ops.size false) (fun x => x) s1 β a { w with drawn := w.drawn + 1 } rfl h3 hlt h6 h7 (by simp) (fun i hi hni => absurd (mem i hi) hni) (fun c hc hh => (nol c hc hh).elim) (fun c hc _ _ hh => (nol c hc hh).elim) hs1 I2
  rw [hu] at main
  exact allRuns_of _ _ _ _ (wpAny_of_G _ _ _ _ main)

/-- Two orders. -/
theorem draw_two {ops : Array Oper} {id i j : Nat} {Q : Exit → Act → World → Prop} {a : Act} {w : World} (hm : P.follows .mixedOrders = true) (hne : i ≠ j)
    (hA : AllRuns P (behind ops i j) (fun e a w => e = .normal ∧ Q .normal a w) ops.size (Array.replicate ops.size false) a { w with drawn := w.drawn + 1 })
    (hB : AllRuns P (behind ops j i) (fun e a w => e = .normal ∧ Q .normal a w) ops.size (Array.replicate ops.size false) a { w with drawn := w.drawn + 1 }) : (Code.region id ops true).wp P Q a w := by
  refine (Code.wp_mono (Q := fun e a w => e = .normal ∧ Q .normal a w) ?_ (region_runs hm (allRuns_split hne hA hB)))
  rintro e a w ⟨rfl, h⟩
  exact h

theorem guardOf_behind {i j : Nat} (s : St) (o : Oper) (x : Array Edge) (X Y : St → Prop) : guardOf (behind ops i j) s { o with after := x } X Y = guardOf ops s o X Y := by
  have hd : ∀ k, ((behind ops i j)[k]?).bind (fun o : Oper => o.dst) = (ops[k]?).bind (fun o : Oper => o.dst) := fun k => by
    rw [behind_at]
    by_cases e : i = k
    · rw [if_pos e]; cases ops[k]? <;> rfl
    · rw [if_neg e]
  unfold guardOf
  simp only [hd]

theorem opCls_after (isK : Nat → Bool) (o : Oper) (x : Array Edge) : opCls isK { o with after := x } = opCls isK o := by unfold opCls; rfl
theorem confC_after (cf : List (Nat × List Nat)) (c : Nat) (s : St) (o : Oper) (x : Array Edge) (X : Prop) : confC cf c s { o with after := x } X = confC cf c s o X := by unfold confC; rfl
theorem aopR_after (o : Oper) (x : Array Edge) (s : St) (K : St → Prop) : aopR E { o with after := x } s K = aopR E o s K := by unfold aopR aalloc; rfl
theorem aop_after (o : Oper) (x : Array Edge) (s : St) (K : St → Prop) : aop E { o with after := x } s K = aop E o s K := by unfold aop aalloc; rfl

theorem aopsC_behind {i j : Nat} {cf : List (Nat × List Nat)} {K : St → Prop} : ∀ (l : List (Nat × List Nat)) (s : St), aopsC E (behind ops i j) cf l s K = aopsC E ops cf l s K
  | [], _ => rfl
  | (c, ms) :: rest, s => by
    unfold aopsC
    congr 1
    funext s
    rw [behind_at]
    by_cases e : i = c
    · rw [if_pos e]
      cases ops[c]? with
      | none => rfl
      | some o =>
        simp only [Option.map]
        rw [guardOf_behind]
        simp only [aopsC_behind rest, opCls_after, confC_after]
        congr 1
        funext s
        congr 1
        generalize opCls E.isK o = q
        rcases q with _ | _ | q
        · exact aopR_after ..
        · exact aopR_after ..
        · exact aop_after ..
    · rw [if_neg e]
      cases ops[c]? with
      | none => rfl
      | some o =>
        have := guardOf_behind (ops := ops) (i := i) (j := j) s o o.after (fun s => confC cf c s o ((match opCls E.isK o with | 0 => aopR | 1 => aopR | _ => aop) E o s fun s' => aopsC E (behind ops i j) cf rest s' K)) (fun s => putK E s o.dst undef fun s => aopsC E (behind ops i j) cf rest s K)
        simp only [aopsC_behind rest] at this ⊢
        exact this

theorem aopsT_behind {i j : Nat} {K : St → Prop} {s : St} : ∀ (t : OrdT), aopsT E ops t s K → aopsT E (behind ops i j) t s K
  | .leaf l cf, h => by
    show aopsC E (behind ops i j) cf l s K
    rw [aopsC_behind]
    exact h
  | .two _ _ a b, h => ⟨aopsT_behind a h.1, aopsT_behind b h.2⟩

theorem size_behind (ops : Array Oper) (i j : Nat) : (behind ops i j).size = ops.size := by simp [behind]

theorem tree_runs {K : St → Prop} {s : St} {β : Be} {a : Act} {w : World} (hE : EnvOk P E) (I : Inv Fb E.N l0 W0 nb0 β0 H0 s β a w) (hQ : ∀ s β a w, K s → Inv Fb E.N l0 W0 nb0 β0 H0 s β a w → Q .normal a w) :
    ∀ (t : OrdT) (ops : Array Oper), treeB E.drw t ops = true → aopsT E ops t s K → AllRuns P ops (fun e a w => e = .normal ∧ Q .normal a w) ops.size (Array.replicate ops.size false) a { w with drawn := w.drawn + 1 }
  | .leaf l cf, ops, ht, h => draw_runs hE (hE.drw _ _ _ ht) h I hQ
  | .two i j x y, ops, ht, h => by
    unfold treeB at ht
    simp only [Bool.and_eq_true, Bool.not_eq_true'] at ht
    have hne : i ≠ j := fun e => by subst e; have := ht.1.1; simp at this
    have hA := tree_runs hE I hQ x (behind ops i j) ht.1.2 (aopsT_behind x h.1)
    have hB := tree_runs hE I hQ y (behind ops j i) ht.2 (aopsT_behind y h.2)
    rw [size_behind] at hA hB
    exact allRuns_split hne hA hB

/-- **A REGION WITH A TREE OF ORDERS.** -/
theorem tree_region {ops : Array Oper} {id : Nat} {K : St → Prop} {t : OrdT} {s : St} {β : Be} {a : Act} {w : World} (hE : EnvOk P E) (ht : treeB E.drw t ops = true) (h : aopsT E ops t s K)
    (I : Inv Fb E.N l0 W0 nb0 β0 H0 s β a w) (hQ : ∀ s β a w, K s → Inv Fb E.N l0 W0 nb0 β0 H0 s β a w → Q .normal a w) : (Code.region id ops true).wp P Q a w := by
  refine (Code.wp_mono (Q := fun e a w => e = .normal ∧ Q .normal a w) ?_ (region_runs hE.mixed (tree_runs hE I hQ t ops ht h)))
  rintro e a w ⟨rfl, h⟩
  exact h
end Go.Eng
