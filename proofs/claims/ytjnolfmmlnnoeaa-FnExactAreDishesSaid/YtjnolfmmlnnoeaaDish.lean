/- Lists of dishes: what the functions on them compute. -/
import Derived.Test.YtjnolfmmlnnoeaaGlass
set_option linter.unusedSimpArgs false
set_option linter.unusedVariables false
set_option maxRecDepth 100000
namespace Go.Proofs.Ytjnolfmmlnnoeaa
open Go Go.Eng

def szF : List DV → Option (List DV)
  | [.sl _ n _, .v (.int .i64 left)] => some [.v (.int .i64 (if IntKind.i64.wrap (left - n) < 0 then -1 else IntKind.i64.wrap (left - n)))]
  | [.nil, .v (.int .i64 left)] => some [.v (.int .i64 (if IntKind.i64.wrap (left - 0) < 0 then -1 else IntKind.i64.wrap (left - 0)))]
  | _ => none
theorem szDishS_sound : SoundW Try.prog 12 (deepSem szF) := by
  refine deep_sound (env_ok (N := Try.f12.ntmps) (l := []) (live := [])) Try.func12 ?_
  intro ds rs h hg
  unfold szF at h
  split at h <;> cases h
  all_goals
    conv => whnf
    repeat' ((first | refine chk_intro (lexF_ok (by kernel_rfl)) ?_ | refine chk_intro (by (first | (simp [isOne]; done) | ((try simp only [Bool.and_eq_true, decide_eq_true_eq, Nat.blt_eq, Nat.ble_eq, Nat.beq_eq_true_eq]); simp [isOne]; omega) | (simp_all [isOne]; done) | (simp_all [isOne]; omega))) ?_ | refine callD rfl ?_ | refine callD (if_pos (by (first | (simp [isOne]; done) | ((try simp only [Bool.and_eq_true, decide_eq_true_eq, Nat.blt_eq, Nat.ble_eq, Nat.beq_eq_true_eq]); simp [isOne]; omega) | (simp_all [isOne]; done) | (simp_all [isOne]; omega)))) ?_ | refine notsplit ?_ | refine dsplit (fun h => ?_) (fun h => ?_) | refine esplit (fun h => ?_) (fun h => ?_) | refine nsplit (fun h => ?_) (fun h => ?_) | refine bsplit (fun h => ?_) (fun h => ?_)) <;> conv => whnf)
    all_goals first | exact ⟨⟨rfl, rfl, rfl⟩, rfl⟩ | (refine ⟨⟨?_, rfl, rfl⟩, rfl⟩; simp_all; try omega)
def e_szDishS : Ent Try.prog := .deep 12 szF ⟨_, Try.func12, rfl, by kernel_rfl⟩ szDishS_sound


def to3F : List DV → Option (List DV)
  | [.sl 3 n (.ints .i64 l)] => if n ≤ 1048576 then some [.sl 3 n (.ints .i64 l)] else none
  | [.nil] => some [.sl 3 0 (.ints .i64 [])]
  | _ => none
def toDishF : List Value → Option Value
  | [.agg ⟨[.int .i64 a, .int .i64 b, .int .i64 c]⟩] => some (.agg ⟨[.int .i64 a, .int .i64 b, .int .i64 c]⟩)
  | _ => none
theorem toDish_sound : SoundQ Try.prog 35 (flatSem toDishF) := flat_sound (env_ok (N := Try.f35.ntmps) (l := []) (live := [])) Try.func35 (by
  intro args r h
  unfold toDishF at h
  split at h <;> cases h
  refine ⟨rfl, rfl, ?_⟩
  conv => whnf
  repeat' ((first | refine chk_intro (lexF_ok (by kernel_rfl)) ?_ | refine bsplit (fun h => ?_) (fun h => ?_) | refine Or.inl (Exists.intro 6 ?_)) <;> conv => whnf)
  all_goals (first | rfl | (simp only [Bool.not_eq_true', Bool.not_eq_false', Bool.not_true, Bool.not_false, Bool.and_false, Bool.false_and, Bool.and_true, Bool.true_and, Bool.or_false, Bool.false_or, Bool.or_true, Bool.true_or] at *; simp only [*, Bool.not_eq_true', Bool.not_eq_false', Bool.not_true, Bool.not_false, Bool.and_false, Bool.false_and, Bool.and_true, Bool.true_and, Bool.or_false, Bool.false_or, Bool.or_true, Bool.true_or]; done) | (simp_all []; done) | (simp_all []; omega)))
def e_toDish : Ent Try.prog := .flat 35 (flatSem toDishF) ⟨_, Try.func35, rfl, by kernel_rfl⟩ toDish_sound


theorem toDishS_sound : SoundW Try.prog 14 (deepSem to3F) := by
  refine deep_sound (env_ok (N := Try.f14.ntmps) (l := [e_toDish]) (live := [(0, [0, 3, 4])])) Try.func14 ?_
  intro ds rs h hg
  unfold to3F at h
  split at h
  · rename_i n l
    split at h <;> cases h
    rename_i hn
    have hl : l.length = n * 3 := (hg _ (List.mem_cons_self ..)).2.2
    clear hg
    conv => whnf
    refine chk_intro (by (first | (simp [isOne]; done) | ((try simp only [Bool.and_eq_true, decide_eq_true_eq, Nat.blt_eq, Nat.ble_eq, Nat.beq_eq_true_eq]); simp [isOne]; omega) | (simp_all [isOne]; done) | (simp_all [isOne]; omega))) ?_
    conv => whnf
    refine Or.inr ⟨Nat, fun i => n - i, fun i => ⟨frame [(0, .slice (some ⟨0, 0, some (n * 3)⟩) n 3), (3, .slice (some ⟨1, 0, some (n * 3)⟩) n 3), (4, .int .i64 i)],
      upd (inH [.sl 3 n (.ints .i64 l)] 0) 1 (.cells true true (n * 3) (.ints .i64 (firsts l (i * 3)))), 2, 1⟩, fun i => i ≤ n, ⟨0, weak_mk ⟨rfl, rfl, rfl, trivial⟩ (Nat.le_refl _) ?_, Nat.zero_le _⟩, fun i hi => ?_⟩
    · refine ⟨.inr ⟨rfl, rfl, fun _ => rfl, (firsts_len _ _).trans hl, fun k hk => ?_⟩, .inl rfl, trivial⟩
      show Value.int .i64 ((List.replicate (n * 3) 0).getD k 0) = .int .i64 ((firsts l 0).getD k 0)
      rw [firsts_at (by omega), getD_rep _ _ hk]; rfl
    · conv => whnf
      repeat' ((first | refine chk_intro (lexF_ok (by kernel_rfl)) ?_ | refine chk_intro (by (first | (simp [isOne]; done) | ((try simp only [Bool.and_eq_true, decide_eq_true_eq, Nat.blt_eq, Nat.ble_eq, Nat.beq_eq_true_eq]); simp [isOne]; omega) | (simp_all [isOne]; done) | (simp_all [isOne]; omega))) ?_ | refine callD rfl ?_ | refine callD (if_pos (by (first | (simp [isOne]; done) | ((try simp only [Bool.and_eq_true, decide_eq_true_eq, Nat.blt_eq, Nat.ble_eq, Nat.beq_eq_true_eq]); simp [isOne]; omega) | (simp_all [isOne]; done) | (simp_all [isOne]; omega)))) ?_ | refine notsplit ?_ | refine dsplit (fun h => ?_) (fun h => ?_) | refine esplit (fun h => ?_) (fun h => ?_) | refine nsplit (fun h => ?_) (fun h => ?_) | refine bsplit (fun h => ?_) (fun h => ?_)) <;> conv => whnf)
      · simp only [wrap_succ (show i ≤ 4611686018427387904 by omega)]
        have h3 : i < n := by omega
        refine ⟨i + 1, by omega, h3, weak_mk ⟨rfl, rfl, rfl, trivial⟩ (Nat.le_refl _) ?_⟩
        refine ⟨.inr ⟨rfl, rfl, fun _ => rfl, (firsts_len _ _).trans hl, fun k hk => ?_⟩, .inl rfl, trivial⟩
        have hp := firsts_put (l := l) (j := i * 3) (k := k) (x := [l.getD (i * 3) 0, l.getD (i * 3 + 1) 0, l.getD (i * 3 + 2) 0]) (by simp; omega) (fun j hj => by
          match j, hj with
          | 0, _ => rfl
          | 1, _ => rfl
          | 2, _ => rfl) (by omega)
        have e : (i + 1) * 3 = i * 3 + 3 := by omega
        rw [e]
        show Value.int .i64 _ = Value.int .i64 _
        refine congrArg _ (Eq.trans ?_ hp)
        simp [putL]
      · refine ⟨⟨⟨rfl, rfl, rfl, rfl, hl, fun k hk => ?_⟩, rfl⟩, rfl⟩
        have : i = n := by omega
        subst this
        show Value.int .i64 _ = Value.int .i64 _
        rw [firsts_at (by omega), if_pos hk]
  · cases h
    conv => whnf
    repeat' ((first | refine chk_intro (lexF_ok (by kernel_rfl)) ?_ | refine chk_intro (by (first | (simp [isOne]; done) | ((try simp only [Bool.and_eq_true, decide_eq_true_eq, Nat.blt_eq, Nat.ble_eq, Nat.beq_eq_true_eq]); simp [isOne]; omega) | (simp_all [isOne]; done) | (simp_all [isOne]; omega))) ?_ | refine callD rfl ?_ | refine callD (if_pos (by (first | (simp [isOne]; done) | ((try simp only [Bool.and_eq_true, decide_eq_true_eq, Nat.blt_eq, Nat.ble_eq, Nat.beq_eq_true_eq]); simp [isOne]; omega) | (simp_all [isOne]; done) | (simp_all [isOne]; omega)))) ?_ | refine notsplit ?_ | refine dsplit (fun h => ?_) (fun h => ?_) | refine esplit (fun h => ?_) (fun h => ?_) | refine nsplit (fun h => ?_) (fun h => ?_) | refine bsplit (fun h => ?_) (fun h => ?_)) <;> conv => whnf)
    refine Or.inl ⟨1, ?_⟩
    conv => whnf
    repeat' ((first | refine chk_intro (lexF_ok (by kernel_rfl)) ?_ | refine chk_intro (by (first | (simp [isOne]; done) | ((try simp only [Bool.and_eq_true, decide_eq_true_eq, Nat.blt_eq, Nat.ble_eq, Nat.beq_eq_true_eq]); simp [isOne]; omega) | (simp_all [isOne]; done) | (simp_all [isOne]; omega))) ?_ | refine callD rfl ?_ | refine callD (if_pos (by (first | (simp [isOne]; done) | ((try simp only [Bool.and_eq_true, decide_eq_true_eq, Nat.blt_eq, Nat.ble_eq, Nat.beq_eq_true_eq]); simp [isOne]; omega) | (simp_all [isOne]; done) | (simp_all [isOne]; omega)))) ?_ | refine notsplit ?_ | refine dsplit (fun h => ?_) (fun h => ?_) | refine esplit (fun h => ?_) (fun h => ?_) | refine nsplit (fun h => ?_) (fun h => ?_) | refine bsplit (fun h => ?_) (fun h => ?_)) <;> conv => whnf)
    exact ⟨⟨⟨rfl, rfl, rfl, rfl, rfl, fun k hk => absurd hk (Nat.not_lt_zero k)⟩, rfl⟩, rfl⟩
  · cases h
def e_toDishS : Ent Try.prog := .deep 14 to3F ⟨_, Try.func14, rfl, by kernel_rfl⟩ toDishS_sound


def eq3F : List DV → Option (List DV)
  | [.sl 3 n (.ints .i64 l), .sl 3 m (.ints .i64 l')] => if n ≤ 1048576 then some [.v (.bool (n == m && l == l'))] else none
  | _ => none
def eqDishF : List Value → Option Value
  | [.agg ⟨[.int .i64 a, .int .i64 b, .int .i64 c]⟩, .agg ⟨[.int .i64 a', .int .i64 b', .int .i64 c']⟩] => some (.bool (a == a' && b == b' && c == c'))
  | _ => none
theorem eqDish_sound : SoundQ Try.prog 38 (flatSem eqDishF) := flat_sound (env_ok (N := Try.f38.ntmps) (l := []) (live := [])) Try.func38 (by
  intro args r h
  unfold eqDishF at h
  split at h <;> cases h
  refine ⟨rfl, rfl, ?_⟩
  conv => whnf
  repeat' ((first | refine chk_intro (lexF_ok (by kernel_rfl)) ?_ | refine bsplit (fun h => ?_) (fun h => ?_) | refine Or.inl (Exists.intro 6 ?_)) <;> conv => whnf)
  all_goals (first | rfl | (simp only [Bool.not_eq_true', Bool.not_eq_false', Bool.not_true, Bool.not_false, Bool.and_false, Bool.false_and, Bool.and_true, Bool.true_and, Bool.or_false, Bool.false_or, Bool.or_true, Bool.true_or] at *; simp only [*, Bool.not_eq_true', Bool.not_eq_false', Bool.not_true, Bool.not_false, Bool.and_false, Bool.false_and, Bool.and_true, Bool.true_and, Bool.or_false, Bool.false_or, Bool.or_true, Bool.true_or]; done) | (simp_all []; done) | (simp_all []; omega)))
def e_eqDish : Ent Try.prog := .flat 38 (flatSem eqDishF) ⟨_, Try.func38, rfl, by kernel_rfl⟩ eqDish_sound

theorem eqDishS_sound : SoundW Try.prog 16 (deepSem eq3F) := by
  refine deep_sound (env_ok (N := Try.f16.ntmps) (l := [e_eqDish]) (live := [(0, [0, 1, 5])])) Try.func16 ?_
  intro ds rs h hg
  unfold eq3F at h
  split at h
  · rename_i n l n' l'
    split at h <;> cases h
    rename_i hn
    have hl : l.length = n * 3 := (hg _ (List.mem_cons_self ..)).2.2
    have hl' : l'.length = n' * 3 := (hg _ (List.mem_cons_of_mem _ (List.mem_cons_self ..))).2.2
    clear hg
    conv => whnf
    repeat' ((first | refine chk_intro (lexF_ok (by kernel_rfl)) ?_ | refine chk_intro (by (first | (simp [isOne]; done) | ((try simp only [Bool.and_eq_true, decide_eq_true_eq, Nat.blt_eq, Nat.ble_eq, Nat.beq_eq_true_eq]); simp [isOne]; omega) | (simp_all [isOne]; done) | (simp_all [isOne]; omega))) ?_ | refine callD rfl ?_ | refine callD (if_pos (by (first | (simp [isOne]; done) | ((try simp only [Bool.and_eq_true, decide_eq_true_eq, Nat.blt_eq, Nat.ble_eq, Nat.beq_eq_true_eq]); simp [isOne]; omega) | (simp_all [isOne]; done) | (simp_all [isOne]; omega)))) ?_ | refine notsplit ?_ | refine dsplit (fun h => ?_) (fun h => ?_) | refine esplit (fun h => ?_) (fun h => ?_) | refine nsplit (fun h => ?_) (fun h => ?_) | refine bsplit (fun h => ?_) (fun h => ?_)) <;> conv => whnf)
    · obtain rfl : n = n' := by omega
      refine Or.inr ⟨Nat, fun i => n - i, fun i => ⟨frame [(0, .slice (some ⟨0, 0, some (n * 3)⟩) n 3), (1, .slice (some ⟨1, 0, some (n * 3)⟩) n 3), (5, .int .i64 i)],
        inH [.sl 3 n (.ints .i64 l), .sl 3 n (.ints .i64 l')] 0, 2, 2⟩, fun i => i ≤ n ∧ ∀ k, k < i * 3 → l.getD k 0 = l'.getD k 0, ⟨0, weak_mk ⟨rfl, rfl, rfl, trivial⟩ (Nat.le_refl _) ⟨.inl rfl, .inl rfl, trivial⟩, Nat.zero_le _, fun k hk => by omega⟩, fun i ⟨hi, heq⟩ => ?_⟩
      conv => whnf
      repeat' ((first | refine chk_intro (lexF_ok (by kernel_rfl)) ?_ | refine chk_intro (by (first | (simp [isOne]; done) | ((try simp only [Bool.and_eq_true, decide_eq_true_eq, Nat.blt_eq, Nat.ble_eq, Nat.beq_eq_true_eq]); simp [isOne]; omega) | (simp_all [isOne]; done) | (simp_all [isOne]; omega))) ?_ | refine callD rfl ?_ | refine callD (if_pos (by (first | (simp [isOne]; done) | ((try simp only [Bool.and_eq_true, decide_eq_true_eq, Nat.blt_eq, Nat.ble_eq, Nat.beq_eq_true_eq]); simp [isOne]; omega) | (simp_all [isOne]; done) | (simp_all [isOne]; omega)))) ?_ | refine notsplit ?_ | refine dsplit (fun h => ?_) (fun h => ?_) | refine esplit (fun h => ?_) (fun h => ?_) | refine nsplit (fun h => ?_) (fun h => ?_) | refine bsplit (fun h => ?_) (fun h => ?_)) <;> conv => whnf)
      · simp at h
        obtain ⟨⟨h1, h2⟩, h3⟩ := h
        simp only [wrap_succ (show i ≤ 4611686018427387904 by omega)]
        refine ⟨i + 1, by omega, ⟨by omega, fun k hk => ?_⟩, weak_mk ⟨rfl, rfl, rfl, trivial⟩ (Nat.le_refl _) ⟨.inl rfl, .inl rfl, trivial⟩⟩
        rcases Nat.lt_or_ge k (i * 3) with hk1 | hk1
        · exact heq k hk1
        · have : k = i * 3 ∨ k = i * 3 + 1 ∨ k = i * 3 + 2 := by omega
          rcases this with rfl | rfl | rfl <;> simp [*]
      · refine ⟨⟨?_, rfl, rfl⟩, rfl⟩
        have : (l == l') = false := by
          cases e : l == l' with
          | false => rfl
          | true =>
            obtain rfl : l = l' := by simpa using e
            simp at h
        simp [this]
      · refine ⟨⟨?_, rfl, rfl⟩, rfl⟩
        have : l = l' := list_ext (by omega) fun k hk => heq k (by omega)
        simp [this]
    · refine ⟨⟨?_, rfl, rfl⟩, rfl⟩
      have : (n == n') = false := by simp; omega
      simp [this]
  · cases h
def e_eqDishS : Ent Try.prog := .deep 16 eq3F ⟨_, Try.func16, rfl, by kernel_rfl⟩ eqDishS_sound


def dishB (a b c : Int) : Bool := inB a 1 60 && decide (b ≥ 0) && decide (b ≤ c)
def dishF : List Value → Option Value
  | [.agg ⟨[.int .i64 a, .int .i64 b, .int .i64 c]⟩] => some (.bool (dishB a b c))
  | _ => none
def noDishF : List Value → Option Value
  | [.agg ⟨[.int .i64 a, .int .i64 b, .int .i64 c]⟩] => some (.bool (!dishB a b c))
  | _ => none
theorem l11Dish_sound : SoundQ Try.prog 50 (flatSem dishF) := flat_sound (env_ok (N := Try.f50.ntmps) (l := [e_l1In]) (live := [])) Try.func50 (by
  intro args r h
  unfold dishF at h
  split at h <;> cases h
  refine ⟨rfl, rfl, ?_⟩
  conv => whnf
  repeat' ((first | refine chk_intro (lexF_ok (by kernel_rfl)) ?_ | refine bsplit (fun h => ?_) (fun h => ?_) | refine Or.inl (Exists.intro 6 ?_)) <;> conv => whnf)
  all_goals (first | rfl | (simp only [Bool.not_eq_true', Bool.not_eq_false', Bool.not_true, Bool.not_false, Bool.and_false, Bool.false_and, Bool.and_true, Bool.true_and, Bool.or_false, Bool.false_or, Bool.or_true, Bool.true_or] at *; simp only [*, Bool.not_eq_true', Bool.not_eq_false', Bool.not_true, Bool.not_false, Bool.and_false, Bool.false_and, Bool.and_true, Bool.true_and, Bool.or_false, Bool.false_or, Bool.or_true, Bool.true_or, dishB, inB]; done) | (simp_all [dishB, inB]; done) | (simp_all [dishB, inB]; omega)))
def e_l11Dish : Ent Try.prog := .flat 50 (flatSem dishF) ⟨_, Try.func50, rfl, by kernel_rfl⟩ l11Dish_sound

theorem AreDishes1_sound : SoundQ Try.prog 37 (flatSem noDishF) := flat_sound (env_ok (N := Try.f37.ntmps) (l := [e_within]) (live := [])) Try.func37 (by
  intro args r h
  unfold noDishF at h
  split at h <;> cases h
  refine ⟨rfl, rfl, ?_⟩
  conv => whnf
  repeat' ((first | refine chk_intro (lexF_ok (by kernel_rfl)) ?_ | refine bsplit (fun h => ?_) (fun h => ?_) | refine Or.inl (Exists.intro 6 ?_)) <;> conv => whnf)
  all_goals (first | rfl | (refine congrArg Value.bool ?_; rw [Bool.eq_iff_iff]; simp_all [dishB, inB]; done) | (refine congrArg Value.bool ?_; rw [Bool.eq_iff_iff]; simp_all [dishB, inB]; omega)))
def e_AreDishes1 : Ent Try.prog := .flat 37 (flatSem noDishF) ⟨_, Try.func37, rfl, by kernel_rfl⟩ AreDishes1_sound

def dishAt (l : List Int) (i : Nat) : Bool := dishB (l.getD (i * 3) 0) (l.getD (i * 3 + 1) 0) (l.getD (i * 3 + 2) 0)
def allDish (n : Nat) (l : List Int) : Bool := (List.range n).all (dishAt l)
def idxDishF : List DV → Option (List DV)
  | [.sl 3 n (.ints .i64 l), .v (.func (.func 37) ⟨[]⟩ ⟨[]⟩)] => if n ≤ 1048576 then some [.v (.int .i64 (leastIdx n fun i => !dishAt l i))] else none
  | _ => none
theorem idxDish_sound : SoundW Try.prog 51 (deepSem idxDishF) := by
  refine deep_sound (env_ok (N := Try.f51.ntmps) (l := [e_AreDishes1]) (live := [(0, [0, 1, 7, 8])])) Try.func51 ?_
  intro ds rs h hg
  unfold idxDishF at h
  split at h
  · rename_i n l
    split at h <;> cases h
    rename_i hn
    have hl : l.length = n * 3 := (hg _ (List.mem_cons_self ..)).2.2
    clear hg
    conv => whnf
    repeat' ((first | refine chk_intro (lexF_ok (by kernel_rfl)) ?_ | refine chk_intro (by (first | (simp [isOne]; done) | ((try simp only [Bool.and_eq_true, decide_eq_true_eq, Nat.blt_eq, Nat.ble_eq, Nat.beq_eq_true_eq]); simp [isOne]; omega) | (simp_all [isOne]; done) | (simp_all [isOne]; omega))) ?_ | refine callD rfl ?_ | refine callD (if_pos (by (first | (simp [isOne]; done) | ((try simp only [Bool.and_eq_true, decide_eq_true_eq, Nat.blt_eq, Nat.ble_eq, Nat.beq_eq_true_eq]); simp [isOne]; omega) | (simp_all [isOne]; done) | (simp_all [isOne]; omega)))) ?_ | refine notsplit ?_ | refine dsplit (fun h => ?_) (fun h => ?_) | refine esplit (fun h => ?_) (fun h => ?_) | refine nsplit (fun h => ?_) (fun h => ?_) | refine bsplit (fun h => ?_) (fun h => ?_)) <;> conv => whnf)
    refine Or.inr ⟨Nat, fun i => n - i, fun i => ⟨frame [(0, .slice (some ⟨0, 0, some (n * 3)⟩) n 3), (1, .func (.func 37) ⟨[]⟩ ⟨[]⟩), (7, .int .i64 n), (8, .int .i64 i)],
      inH [.sl 3 n (.ints .i64 l)] 0, 1, 1⟩, fun i => i ≤ n ∧ ∀ j, j < i → (!dishAt l j) = false, ⟨0, weak_mk ⟨rfl, rfl, rfl, rfl, trivial⟩ (Nat.le_refl _) ⟨.inl rfl, trivial⟩, Nat.zero_le _, fun k hk => absurd hk (Nat.not_lt_zero _)⟩, fun i ⟨hi, hd⟩ => ?_⟩
    conv => whnf
    repeat' ((first | refine chk_intro (lexF_ok (by kernel_rfl)) ?_ | refine chk_intro (by (first | (simp [isOne]; done) | ((try simp only [Bool.and_eq_true, decide_eq_true_eq, Nat.blt_eq, Nat.ble_eq, Nat.beq_eq_true_eq]); simp [isOne]; omega) | (simp_all [isOne]; done) | (simp_all [isOne]; omega))) ?_ | refine callD rfl ?_ | refine callD (if_pos (by (first | (simp [isOne]; done) | ((try simp only [Bool.and_eq_true, decide_eq_true_eq, Nat.blt_eq, Nat.ble_eq, Nat.beq_eq_true_eq]); simp [isOne]; omega) | (simp_all [isOne]; done) | (simp_all [isOne]; omega)))) ?_ | refine notsplit ?_ | refine dsplit (fun h => ?_) (fun h => ?_) | refine esplit (fun h => ?_) (fun h => ?_) | refine nsplit (fun h => ?_) (fun h => ?_) | refine bsplit (fun h => ?_) (fun h => ?_)) <;> conv => whnf)
    · simp only [wrap_succ (show i ≤ 4611686018427387904 by omega)]
      refine ⟨i + 1, by omega, ⟨by omega, fun k hk => ?_⟩, weak_mk ⟨rfl, rfl, rfl, rfl, trivial⟩ (Nat.le_refl _) ⟨.inl rfl, trivial⟩⟩
      rcases Nat.lt_or_ge k i with hk1 | hk1
      · exact hd k hk1
      · obtain rfl : k = i := by omega
        simpa [dishAt] using h
    · refine ⟨⟨?_, rfl, rfl⟩, rfl⟩
      rw [leastIdx_some (i := i) (by omega) (by simpa [dishAt] using h) hd]
    · refine ⟨⟨?_, rfl, rfl⟩, rfl⟩
      obtain rfl : i = n := by omega
      rw [leastIdx_none hd]
  · cases h
def e_idxDish : Ent Try.prog := .deep 51 idxDishF ⟨_, Try.func51, rfl, by kernel_rfl⟩ idxDish_sound


def conDishF : List DV → Option (List DV)
  | [.sl 3 n (.ints .i64 l), .v (.func (.func 37) ⟨[]⟩ ⟨[]⟩)] => if n ≤ 1048576 then some [.v (.bool (!allDish n l))] else none
  | _ => none
theorem conDish_sound : SoundW Try.prog 36 (deepSem conDishF) := by
  refine deep_sound (env_ok (N := Try.f36.ntmps) (l := [e_idxDish]) (live := [])) Try.func36 ?_
  intro ds rs h hg
  unfold conDishF at h
  split at h
  · rename_i n l
    split at h <;> cases h
    rename_i hn
    have hl : l.length = n * 3 := (hg _ (List.mem_cons_self ..)).2.2
    clear hg
    have hl' : (l.drop 0).take (n * 3) = l := by rw [List.drop_zero, List.take_of_length_le (by omega)]
    conv => whnf
    repeat' ((first | refine chk_intro (lexF_ok (by kernel_rfl)) ?_ | refine chk_intro (by (first | (simp [isOne]; done) | ((try simp only [Bool.and_eq_true, decide_eq_true_eq, Nat.blt_eq, Nat.ble_eq, Nat.beq_eq_true_eq]); simp [isOne]; omega) | (simp_all [isOne]; done) | (simp_all [isOne]; omega))) ?_ | refine callD rfl ?_ | refine callD (if_pos (by (first | (simp [isOne]; done) | ((try simp only [Bool.and_eq_true, decide_eq_true_eq, Nat.blt_eq, Nat.ble_eq, Nat.beq_eq_true_eq]); simp [isOne]; omega) | (simp_all [isOne]; done) | (simp_all [isOne]; omega)))) ?_ | refine notsplit ?_ | refine dsplit (fun h => ?_) (fun h => ?_) | refine esplit (fun h => ?_) (fun h => ?_) | refine nsplit (fun h => ?_) (fun h => ?_) | refine bsplit (fun h => ?_) (fun h => ?_)) <;> conv => whnf)
    refine ⟨⟨?_, rfl, rfl⟩, rfl⟩
    simp only [hl', leastIdx_ge, allDish, all_not_any, Bool.not_not]
  · cases h
def e_conDish : Ent Try.prog := .deep 36 conDishF ⟨_, Try.func36, rfl, by kernel_rfl⟩ conDish_sound


def dishesF : List DV → Option (List DV)
  | [.sl 3 n (.ints .i64 l)] => if n ≤ 1048576 then some [.v (.bool (decide (n ≤ 6) && allDish n l))] else none
  | _ => none
theorem AreDishes_sound : SoundW Try.prog 15 (deepSem dishesF) := by
  refine deep_sound (env_ok (N := Try.f15.ntmps) (l := [e_conDish]) (live := [])) Try.func15 ?_
  intro ds rs h hg
  unfold dishesF at h
  split at h
  · rename_i n l
    split at h <;> cases h
    rename_i hn
    have hl : l.length = n * 3 := (hg _ (List.mem_cons_self ..)).2.2
    clear hg
    have hl' : (l.drop 0).take (n * 3) = l := by rw [List.drop_zero, List.take_of_length_le (by omega)]
    conv => whnf
    repeat' ((first | refine chk_intro (lexF_ok (by kernel_rfl)) ?_ | refine chk_intro (by (first | (simp [isOne]; done) | ((try simp only [Bool.and_eq_true, decide_eq_true_eq, Nat.blt_eq, Nat.ble_eq, Nat.beq_eq_true_eq]); simp [isOne]; omega) | (simp_all [isOne]; done) | (simp_all [isOne]; omega))) ?_ | refine callD rfl ?_ | refine callD (if_pos (by (first | (simp [isOne]; done) | ((try simp only [Bool.and_eq_true, decide_eq_true_eq, Nat.blt_eq, Nat.ble_eq, Nat.beq_eq_true_eq]); simp [isOne]; omega) | (simp_all [isOne]; done) | (simp_all [isOne]; omega)))) ?_ | refine notsplit ?_ | refine dsplit (fun h => ?_) (fun h => ?_) | refine esplit (fun h => ?_) (fun h => ?_) | refine nsplit (fun h => ?_) (fun h => ?_) | refine bsplit (fun h => ?_) (fun h => ?_)) <;> conv => whnf)
    · refine ⟨⟨?_, rfl, rfl⟩, rfl⟩
      rw [hl', Bool.not_not, show decide (n ≤ 6) = true from by simp; omega]; rfl
    · refine ⟨⟨?_, rfl, rfl⟩, rfl⟩
      rw [show decide (n ≤ 6) = false from by simp; omega]; rfl
  · cases h
def e_AreDishes : Ent Try.prog := .deep 15 dishesF ⟨_, Try.func15, rfl, by kernel_rfl⟩ AreDishes_sound


theorem l11Dishes_sound : SoundW Try.prog 34 (deepSem dishesF) := by
  refine deep_sound (env_ok (N := Try.f34.ntmps) (l := [e_l11Dish]) (live := [(0, [0, 3])])) Try.func34 ?_
  intro ds rs h hg
  unfold dishesF at h
  split at h
  · rename_i n l
    split at h <;> cases h
    rename_i hn
    have hl : l.length = n * 3 := (hg _ (List.mem_cons_self ..)).2.2
    clear hg
    conv => whnf
    repeat' ((first | refine chk_intro (lexF_ok (by kernel_rfl)) ?_ | refine chk_intro (by (first | (simp [isOne]; done) | ((try simp only [Bool.and_eq_true, decide_eq_true_eq, Nat.blt_eq, Nat.ble_eq, Nat.beq_eq_true_eq]); simp [isOne]; omega) | (simp_all [isOne]; done) | (simp_all [isOne]; omega))) ?_ | refine callD rfl ?_ | refine callD (if_pos (by (first | (simp [isOne]; done) | ((try simp only [Bool.and_eq_true, decide_eq_true_eq, Nat.blt_eq, Nat.ble_eq, Nat.beq_eq_true_eq]); simp [isOne]; omega) | (simp_all [isOne]; done) | (simp_all [isOne]; omega)))) ?_ | refine notsplit ?_ | refine dsplit (fun h => ?_) (fun h => ?_) | refine esplit (fun h => ?_) (fun h => ?_) | refine nsplit (fun h => ?_) (fun h => ?_) | refine bsplit (fun h => ?_) (fun h => ?_)) <;> conv => whnf)
    refine Or.inr ⟨Nat, fun i => n - i, fun i => ⟨frame [(0, .slice (some ⟨0, 0, some (n * 3)⟩) n 3), (3, .int .i64 i)],
      inH [.sl 3 n (.ints .i64 l)] 0, 1, 1⟩, fun i => i ≤ n ∧ i ≤ 7 ∧ ∀ j, j < i → dishAt l j = true, ⟨0, weak_mk ⟨rfl, rfl, trivial⟩ (Nat.le_refl _) ⟨.inl rfl, trivial⟩, Nat.zero_le _, Nat.zero_le _, fun k hk => absurd hk (Nat.not_lt_zero _)⟩, fun i ⟨hi, hi7, hd⟩ => ?_⟩
    conv => whnf
    repeat' ((first | refine chk_intro (lexF_ok (by kernel_rfl)) ?_ | refine chk_intro (by (first | (simp [isOne]; done) | ((try simp only [Bool.and_eq_true, decide_eq_true_eq, Nat.blt_eq, Nat.ble_eq, Nat.beq_eq_true_eq]); simp [isOne]; omega) | (simp_all [isOne]; done) | (simp_all [isOne]; omega))) ?_ | refine callD rfl ?_ | refine callD (if_pos (by (first | (simp [isOne]; done) | ((try simp only [Bool.and_eq_true, decide_eq_true_eq, Nat.blt_eq, Nat.ble_eq, Nat.beq_eq_true_eq]); simp [isOne]; omega) | (simp_all [isOne]; done) | (simp_all [isOne]; omega)))) ?_ | refine notsplit ?_ | refine dsplit (fun h => ?_) (fun h => ?_) | refine esplit (fun h => ?_) (fun h => ?_) | refine nsplit (fun h => ?_) (fun h => ?_) | refine bsplit (fun h => ?_) (fun h => ?_)) <;> conv => whnf)
    · simp only [wrap_succ (show i ≤ 4611686018427387904 by omega)]
      refine ⟨i + 1, by omega, ⟨by omega, by omega, fun k hk => ?_⟩, weak_mk ⟨rfl, rfl, trivial⟩ (Nat.le_refl _) ⟨.inl rfl, trivial⟩⟩
      rcases Nat.lt_or_ge k i with hk1 | hk1
      · exact hd k hk1
      · obtain rfl : k = i := by omega
        simpa [dishAt] using h
    · refine ⟨⟨?_, rfl, rfl⟩, rfl⟩
      rw [allDish, all_false (i := i) (by omega) (by simpa [dishAt] using h), Bool.and_false]
    · refine ⟨⟨?_, rfl, rfl⟩, rfl⟩
      rw [show decide (n ≤ 6) = false from by simp; omega, show decide ((n : Int) ≤ 6) = false from by simp; omega]; rfl
    · refine ⟨⟨?_, rfl, rfl⟩, rfl⟩
      obtain rfl : i = n := by omega
      rw [allDish, all_true hd, Bool.and_true]
      congr 1
      simp only [decide_eq_decide]; omega
  · cases h
def e_l11Dishes : Ent Try.prog := .deep 34 dishesF ⟨_, Try.func34, rfl, by kernel_rfl⟩ l11Dishes_sound

theorem sAreDishes_sound : SoundW Try.prog 13 (deepSem dishesF) := by
  refine deep_sound (env_ok (N := Try.f13.ntmps) (l := [e_l11Dishes]) (live := [])) Try.func13 ?_
  intro ds rs h hg
  unfold dishesF at h
  split at h
  · rename_i n l
    split at h <;> cases h
    rename_i hn
    have hl : l.length = n * 3 := (hg _ (List.mem_cons_self ..)).2.2
    clear hg
    have hl' : (l.drop 0).take (n * 3) = l := by rw [List.drop_zero, List.take_of_length_le (by omega)]
    conv => whnf
    repeat' ((first | refine chk_intro (lexF_ok (by kernel_rfl)) ?_ | refine chk_intro (by (first | (simp [isOne]; done) | ((try simp only [Bool.and_eq_true, decide_eq_true_eq, Nat.blt_eq, Nat.ble_eq, Nat.beq_eq_true_eq]); simp [isOne]; omega) | (simp_all [isOne]; done) | (simp_all [isOne]; omega))) ?_ | refine callD rfl ?_ | refine callD (if_pos (by (first | (simp [isOne]; done) | ((try simp only [Bool.and_eq_true, decide_eq_true_eq, Nat.blt_eq, Nat.ble_eq, Nat.beq_eq_true_eq]); simp [isOne]; omega) | (simp_all [isOne]; done) | (simp_all [isOne]; omega)))) ?_ | refine notsplit ?_ | refine dsplit (fun h => ?_) (fun h => ?_) | refine esplit (fun h => ?_) (fun h => ?_) | refine nsplit (fun h => ?_) (fun h => ?_) | refine bsplit (fun h => ?_) (fun h => ?_)) <;> conv => whnf)
    refine ⟨⟨?_, rfl, rfl⟩, rfl⟩
    rw [hl']
  · cases h
def e_sAreDishes : Ent Try.prog := .deep 13 dishesF ⟨_, Try.func13, rfl, by kernel_rfl⟩ sAreDishes_sound

end Go.Proofs.Ytjnolfmmlnnoeaa
