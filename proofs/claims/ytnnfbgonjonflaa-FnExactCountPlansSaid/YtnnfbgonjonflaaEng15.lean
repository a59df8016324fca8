/- A part of the interpreter of Go code, and of the proof that it says what Go does; no condition. -/
import Derived.Test.YtnnfbgonjonflaaEng12
/-! The walk, rule by rule: each says one step of the interpreter. -/
set_option linter.unusedSimpArgs false
set_option linter.unusedVariables false
namespace Go.Eng
variable {E : Env} {K : AEx → St → Prop} {s : St} {cur id : Nat}

def regK (K : AEx → St → Prop) : St → Prop := fun s => K .normal s
def seqK (E : Env) (b : Code) (cur : Nat) (K : AEx → St → Prop) : AEx → St → Prop := fun e s' => match e with | .normal => awp E b cur s' K | .exit i => K (.exit i) s' | .ret => K .ret s'
def blockK (id : Nat) (K : AEx → St → Prop) : AEx → St → Prop := fun e s' => match e with | .exit i => bcase (Nat.beq i id) (K .normal s') (K (.exit i) s') | .normal => K .normal s' | .ret => K .ret s'
def lamK (K : AEx → St → Prop) : AEx → St → Prop := fun e s => K e s
def aloopK (gc : St → (St → Prop) → Prop) (body : St → (AEx → St → Prop) → Prop) (m : Nat) (K : AEx → St → Prop) : AEx → St → Prop :=
  fun e s' => match e with | .normal => gc s' fun s'' => aloop gc body m s'' K | .exit i => K (.exit i) s' | .ret => K .ret s'
def roundK (gc : St → (St → Prop) → Prop) (R : St → Prop) (K : AEx → St → Prop) : AEx → St → Prop :=
  fun e s' => match e with | .normal => gc s' R | .exit i => K (.exit i) s' | .ret => K .ret s'

theorem w_skip (h : K .normal s) : awp E .skip cur s K := h
theorem w_exit (h : K (.exit id) s) : awp E (.exit id) cur s K := h
theorem w_ret (h : K .ret s) : awp E .ret cur s K := h
theorem w_seq {a b : Code} (h : awp E a cur s (seqK E b cur K)) : awp E (.seq a b) cur s K := h
theorem w_block {c : Code} (h : awp E c id s (blockK id K)) : awp E (.block id c) cur s K := h
theorem w_reg {l : List Oper} (h : aops E l.toArray l s (regK K)) : awp E (.region id l.toArray false) cur s K := h
theorem w_drawn {l : List Oper} {ord cf : List (Nat × List Nat)} (e : lookD E.ord id = some (.draw ord cf)) (h : aopsC E l.toArray cf ord s (regK K)) : awp E (.region id l.toArray true) cur s K := by
  show (match lookD E.ord id with
    | some (.tree t) => aopsT E l.toArray t s fun s' => K .normal s'
    | some (.draw l' cf) => aopsC E l.toArray cf l' s fun s' => K .normal s'
    | some .tail => aopsR E l.toArray (l.toArray.toList.take (headLen l.toArray.toList)) s fun s1 => aops E l.toArray (l.toArray.toList.drop (headLen l.toArray.toList)) s1 fun s' => K .normal s'
    | some .quiet => aopsQ E l.toArray l.toArray.toList s fun s' => K .normal s'
    | none => False)
  rw [e]; exact h
theorem w_tree {l : List Oper} {t : OrdT} (e : lookD E.ord id = some (.tree t)) (h : aopsT E l.toArray t s (regK K)) : awp E (.region id l.toArray true) cur s K := by
  show (match lookD E.ord id with
    | some (.tree t) => aopsT E l.toArray t s fun s' => K .normal s'
    | some (.draw l' cf) => aopsC E l.toArray cf l' s fun s' => K .normal s'
    | some .tail => aopsR E l.toArray (l.toArray.toList.take (headLen l.toArray.toList)) s fun s1 => aops E l.toArray (l.toArray.toList.drop (headLen l.toArray.toList)) s1 fun s' => K .normal s'
    | some .quiet => aopsQ E l.toArray l.toArray.toList s fun s' => K .normal s'
    | none => False)
  rw [e]; exact h
theorem w_quiet {l : List Oper} (e : lookD E.ord id = some .quiet) (h : aopsQ E l.toArray l s (regK K)) : awp E (.region id l.toArray true) cur s K := by
  show (match lookD E.ord id with
    | some (.tree t) => aopsT E l.toArray t s fun s' => K .normal s'
    | some (.draw l' cf) => aopsC E l.toArray cf l' s fun s' => K .normal s'
    | some .tail => aopsR E l.toArray (l.toArray.toList.take (headLen l.toArray.toList)) s fun s1 => aops E l.toArray (l.toArray.toList.drop (headLen l.toArray.toList)) s1 fun s' => K .normal s'
    | some .quiet => aopsQ E l.toArray l.toArray.toList s fun s' => K .normal s'
    | none => False)
  rw [e]; exact h

/-- A region that draws its order. -/
def DrawGo (E : Env) (id : Nat) (l : List Oper) (cur : Nat) (s : St) (K : AEx → St → Prop) : Prop := awp E (.region id l.toArray true) cur s K
theorem w_isd {l : List Oper} (h : DrawGo E id l cur s K) : awp E (.region id l.toArray true) cur s K := h
theorem dg_drawn {l : List Oper} {ord cf : List (Nat × List Nat)} (e : lookD E.ord id = some (.draw ord cf)) (h : aopsC E l.toArray cf ord s (regK K)) : DrawGo E id l cur s K := w_drawn e h
theorem dg_tree {l : List Oper} {t : OrdT} (e : lookD E.ord id = some (.tree t)) (h : aopsT E l.toArray t s (regK K)) : DrawGo E id l cur s K := w_tree e h
theorem t_leaf {ops : Array Oper} {l cf : List (Nat × List Nat)} {K : St → Prop} (h : aopsC E ops cf l s K) : aopsT E ops (.leaf l cf) s K := h
theorem t_two {ops : Array Oper} {i j : Nat} {a b : OrdT} {K : St → Prop} (h : aopsT E ops a s K) (h' : aopsT E ops b s K) : aopsT E ops (.two i j a b) s K := ⟨h, h'⟩
theorem dg_quiet {l : List Oper} (e : lookD E.ord id = some .quiet) (h : aopsQ E l.toArray l s (regK K)) : DrawGo E id l cur s K := w_quiet e h

/-- The value of a condition. -/
def condB (v : Value) (X Y : Prop) : Prop := match v with | .bool t => bcase t X Y | _ => False
theorem condB_mono {v : Value} {X X' Y Y' : Prop} (h : condB v X Y) (hx : X → X') (hy : Y → Y') : condB v X' Y' := by
  unfold condB at *
  split at h
  · rename_i t
    cases t
    · exact hy h
    · exact hx h
  · exact h.elim
theorem w_cond {x y : Code} {c : Nat} {fr : Fr} {h : Hp} {nb lo : Nat} (k : condB (fr c) (Step (awp E x cur ⟨upd fr c (.bool true), h, nb, lo⟩ K)) (Step (awp E y cur ⟨upd fr c (.bool false), h, nb, lo⟩ K))) : awp E (.cond (.tmp c) x y) cur ⟨fr, h, nb, lo⟩ K := by
  show condB (fr c) (awp E x cur ⟨upd fr c (.bool true), h, nb, lo⟩ K) (awp E y cur ⟨upd fr c (.bool false), h, nb, lo⟩ K)
  exact condB_mono k Step.out Step.out
theorem w_loop {c : Code} {fr : Fr} {h : Hp} {nb lo : Nat} (k : gcAt E cur ⟨fr, h, nb, lo⟩ fun s' => (∃ m, aloop (gcAt E cur) (awp E c cur) m s' K) ∨ loopI E.b0 (gcAt E cur) (awp E c cur) s' K) : awp E (.loop c) cur ⟨fr, h, nb, lo⟩ K := k

theorem a_nil {ops : Array Oper} {K : St → Prop} (h : K s) : aops E ops [] s K := h
theorem a_cons {ops : Array Oper} {o : Oper} {rest : List Oper} {K : St → Prop} (h : guardOf ops s o (fun s => aop E o s fun s' => aops E ops rest s' K) (fun s => putK E s o.dst undef fun s => aops E ops rest s K)) : aops E ops (o :: rest) s K := h
theorem q_nil {ops : Array Oper} {K : St → Prop} (h : K s) : aopsQ E ops [] s K := h
theorem q_cons {ops : Array Oper} {o : Oper} {rest : List Oper} {K : St → Prop} (h : guardOf ops s o (fun s => aopQ E o s fun s' => aopsQ E ops rest s' K) (fun s => putK E s o.dst undef fun s => aopsQ E ops rest s K)) : aopsQ E ops (o :: rest) s K := h
theorem c_nil {ops : Array Oper} {cf : List (Nat × List Nat)} {K : St → Prop} (h : K s) : aopsC E ops cf [] s K := h
theorem c_cons {ops : Array Oper} {cf rest : List (Nat × List Nat)} {c : Nat} {l : List Nat} {K : St → Prop} (h : maskK l s fun s => match ops[c]? with
    | some o => guardOf ops s o (fun s => confC cf c s o ((match opCls E.isK o with | 0 => aopR | 1 => aopR | _ => aop) E o s fun s' => aopsC E ops cf rest s' K)) (fun s => putK E s o.dst undef fun s => aopsC E ops cf rest s K)
    | none => False) : aopsC E ops cf ((c, l) :: rest) s K := h

theorem k_reg (h : K .normal s) : regK K s := h
theorem k_seq {b : Code} (h : awp E b cur s K) : seqK E b cur K .normal s := h
theorem k_seqe {b : Code} {i : Nat} (h : K (.exit i) s) : seqK E b cur K (.exit i) s := h
theorem k_seqr {b : Code} (h : K .ret s) : seqK E b cur K .ret s := h
theorem k_blk (h : K .normal s) : blockK id K .normal s := h
theorem k_blke {i : Nat} (h : bcase (Nat.beq i id) (Step (K .normal s)) (Step (K (.exit i) s))) : blockK id K (.exit i) s := by
  show bcase (Nat.beq i id) (K .normal s) (K (.exit i) s)
  cases hb : Nat.beq i id with
  | true => rw [hb] at h; exact Step.out h
  | false => rw [hb] at h; exact Step.out h
theorem k_blkr (h : K .ret s) : blockK id K .ret s := h
theorem k_lam {e : AEx} (h : K e s) : lamK K e s := h
theorem k_rndn {gc : St → (St → Prop) → Prop} {R : St → Prop} (h : gc s R) : roundK gc R K .normal s := h
theorem k_rnde {gc : St → (St → Prop) → Prop} {R : St → Prop} {i : Nat} (h : K (.exit i) s) : roundK gc R K (.exit i) s := h
theorem k_rndr {gc : St → (St → Prop) → Prop} {R : St → Prop} (h : K .ret s) : roundK gc R K .ret s := h

theorem soft_mono {v : Value} {K K' : Value → Prop} {D D' : Prop} (h : soft v K D) (hk : ∀ v, K v → K' v) (hd : D → D') : soft v K' D' := by
  cases v <;> first | exact hk _ h | exact hd h
theorem keepSlots_mono {fr : Fr} : ∀ {L : List Nat} {K K' : List (Nat × Value) → Prop}, keepSlots fr L K → (∀ l, K l → K' l) → keepSlots fr L K'
  | [], _, _, h, hk => hk _ h
  | d :: L, _, _, h, hk => soft_mono h (fun v h => keepSlots_mono (L := L) h fun l h => hk _ h) (fun h => keepSlots_mono (L := L) h hk)
theorem gcAt_mono {s : St} {K K' : St → Prop} (h : gcAt E cur s K) (hk : ∀ s, K s → K' s) : gcAt E cur s K' := by
  unfold gcAt at *
  split at h
  · exact hk _ h
  · obtain ⟨fr, H, nb, lo⟩ := s
    exact keepSlots_mono h fun l h => hk _ h
theorem w_aloop {gc : St → (St → Prop) → Prop} {body : St → (AEx → St → Prop) → Prop} {m : Nat} (h : body s (aloopK gc body m K)) : aloop gc body (m + 1) s K := h
theorem k_aln {body : St → (AEx → St → Prop) → Prop} {m : Nat} (h : gcAt E cur s fun s'' => Step (aloop (gcAt E cur) body m s'' K)) : aloopK (gcAt E cur) body m K .normal s := gcAt_mono (K' := fun s'' => aloop (gcAt E cur) body m s'' K) h fun _ h => h.out
theorem k_ale {gc : St → (St → Prop) → Prop} {body : St → (AEx → St → Prop) → Prop} {m i : Nat} (h : K (.exit i) s) : aloopK gc body m K (.exit i) s := h
theorem k_alr {gc : St → (St → Prop) → Prop} {body : St → (AEx → St → Prop) → Prop} {m : Nat} (h : K .ret s) : aloopK gc body m K .ret s := h

theorem callS {α : Type} {a : α} {X : α → Prop} (k : X a) : ∃ r, some a = some r ∧ X r := ⟨a, rfl, k⟩

/-- A body is walked with what comes behind it under a name. -/
theorem body_in {E E' : Env} {c : Code} {cur : Nat} {s : St} {K : AEx → St → Prop} (h : bodyOk E c = true) (k : ∀ K', K' = lamK K → awp E' c cur s K') : bodyOk E c = true ∧ awp E' c cur s K := ⟨h, k (lamK K) rfl⟩

/-- **A LOOP**, as 'loop_at' has it. -/
theorem loop_on {α : Type} {b0 : Nat} {gc : St → (St → Prop) → Prop} {body : St → (AEx → St → Prop) → Prop} {L : List (Nat × Value)} {h : Hp} {nb lo : Nat} {K : AEx → St → Prop} (lo' : Nat) (F : α → List (Nat × Value)) (B : α → List (Nat × AObj)) (μ : α → Nat) (Q : α → Prop) (a0 : α)
    (hl : lo' ≤ lo) (hf : startF L (F a0)) (hb : startH h (B a0)) (hq : Q a0)
    (step : ∀ K', K' = K → ∀ a, Q a → body ⟨frame (setF (F a) L), setH h (B a), nb, lo'⟩ (roundK gc (fun s3 => ∃ a', μ a' < μ a ∧ Q a' ∧ weakX b0 s3 ⟨frame (setF (F a') L), setH h (B a'), nb, lo'⟩) K')) : loopI b0 gc body ⟨frame L, h, nb, lo⟩ K :=
  loop_at lo' F B μ Q a0 hl hf hb hq step

theorem loop_ren_on {α : Type} {b0 : Nat} {gc : St → (St → Prop) → Prop} {body : St → (AEx → St → Prop) → Prop} {L : List (Nat × Value)} {h : Hp} {nb lo : Nat} {K : AEx → St → Prop} (lo' nb' : Nat) (R : List (Nat × Nat)) (F : α → List (Nat × Value)) (B : α → List (Nat × AObj)) (μ : α → Nat) (Q : α → Prop) (a0 : α)
    (hs : weakX b0 ⟨frame L, h, nb, lo⟩ ⟨frame (setF (F a0) L), setH h (B a0), nb', lo'⟩) (hq : Q a0)
    (step : ∀ K', K' = K → ∀ a, Q a → body ⟨frame (setF (F a) L), setH h (B a), nb', lo'⟩ (roundK gc (fun s3 => ∃ a', μ a' < μ a ∧ Q a' ∧ weakX b0 s3 ⟨frame (setF (F a') L), setH h (B a'), nb', lo'⟩) K')) : loopI b0 gc body ⟨frame L, h, nb, lo⟩ K :=
  loop_ren lo' nb' R F B μ Q a0 hs hq step

end Go.Eng
