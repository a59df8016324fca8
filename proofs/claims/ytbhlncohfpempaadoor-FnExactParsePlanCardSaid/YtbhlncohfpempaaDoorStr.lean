/- Texts as lists of bytes: plain facts; no condition. -/
import Derived.Lib.Strings
import Derived.Lib.Bytealg
import Derived.Lib.IndexLaws
import Derived.Lib.ItoaNum
import Derived.Test.YtbhlncohfpempaaDoorGlass
set_option linter.unusedSimpArgs false
set_option linter.unusedVariables false
set_option maxRecDepth 100000
set_option maxHeartbeats 4000000
namespace Go.Proofs.YtbhlncohfpempaaDoor
open Go Go.Eng
/-- A value that no unfolding opens. -/
noncomputable def opq {α : Type} (x : α) : α := Classical.choose (⟨x, rfl⟩ : ∃ y, y = x)
theorem opq_eq {α : Type} (x : α) : opq x = x := Classical.choose_spec (⟨x, rfl⟩ : ∃ y, y = x)
abbrev Bytes := List UInt8
def bs (s : ByteArray) : Bytes := s.data.toList
def mk (l : Bytes) : ByteArray := ⟨l.toArray⟩
theorem str_ext {a b : ByteArray} (h : bs a = bs b) : a = b := by
  cases a; cases b; simp only [bs] at h; rw [Array.toList_inj.1 h]
theorem bs_mk (l : Bytes) : bs (mk l) = l := rfl
theorem mk_bs (s : ByteArray) : mk (bs s) = s := str_ext rfl
theorem bs_app (a b : ByteArray) : bs (a ++ b) = bs a ++ bs b := by simp [bs]
theorem bs_len (s : ByteArray) : (bs s).length = s.size := rfl
theorem size_app (a b : ByteArray) : (a ++ b).size = a.size + b.size := by rw [← bs_len, bs_app, List.length_append]; rfl
theorem size_mk (l : Bytes) : (mk l).size = l.length := rfl
theorem bs_ext (s : ByteArray) (i j : Nat) : bs (s.extract i j) = ((bs s).take j).drop i := by
  simp only [bs, ByteArray.data_extract, Array.toList_extract, List.extract]
  rw [List.drop_take]
theorem size_ext (s : ByteArray) (i j : Nat) : (s.extract i j).size = min j s.size - i := by
  rw [← bs_len, bs_ext, List.length_drop, List.length_take, bs_len]
theorem bs_take (s : ByteArray) : (bs s).take s.size = bs s := by rw [← bs_len, List.take_length]
theorem bs_lit (l : List UInt8) : bs (⟨⟨l⟩⟩ : ByteArray) = l := rfl
theorem size_one (c : UInt8) : (⟨#[c]⟩ : ByteArray).size = 1 := rfl
theorem size_nil : (⟨#[]⟩ : ByteArray).size = 0 := rfl
theorem size_lit (l : List UInt8) : (⟨⟨l⟩⟩ : ByteArray).size = l.length := rfl
theorem mk_app (l m : Bytes) : mk (l ++ m) = mk l ++ mk m := str_ext (by rw [bs_app]; rfl)
theorem mk_inj {l m : Bytes} (h : mk l = mk m) : l = m := congrArg bs h
theorem str_eq (a b : ByteArray) : (a.toList == b.toList) = decide (bs a = bs b) := by
  rw [ByteArray.toList_eq, ByteArray.toList_eq, Bool.eq_iff_iff, beq_iff_eq, decide_eq_true_eq]; exact Iff.rfl
theorem str_dec (a b : ByteArray) : decide (a = b) = decide (bs a = bs b) := by
  rw [Bool.eq_iff_iff, decide_eq_true_eq, decide_eq_true_eq]
  exact ⟨fun h => by rw [h], str_ext⟩

/-! Digits. -/
theorem dig_at {n : Int} (h0 : 0 ≤ n) (h1 : n < 10) : (({ data := #[48, 49, 50, 51, 52, 53, 54, 55, 56, 57] } : ByteArray).extract n.toNat (n.toNat + 1)) = mk [UInt8.ofNat (48 + n.toNat)] := by
  have key : ∀ i : Fin 10, (({ data := #[48, 49, 50, 51, 52, 53, 54, 55, 56, 57] } : ByteArray).extract i.val (i.val + 1)) = mk [UInt8.ofNat (48 + i.val)] := by decide +kernel
  exact key ⟨n.toNat, by omega⟩
theorem itoa_small {n : Int} (h0 : 0 ≤ n) (h1 : n < 10) : Lib.itoa n = [UInt8.ofNat (48 + n.toNat)] := by
  rw [Lib.itoa, if_neg (by omega), Lib.decDigits, dif_pos (by omega)]
theorem itoa_big {n : Int} (h1 : 10 ≤ n) : Lib.itoa n = Lib.itoa (n / 10) ++ [UInt8.ofNat (48 + (n % 10).toNat)] := by
  rw [Lib.itoa, if_neg (by omega), Lib.decDigits, dif_neg (by omega), Lib.itoa, if_neg (by omega)]
  congr 2
  · rw [show (n / 10).toNat = n.toNat / 10 by omega]
  · rw [show (n % 10).toNat = n.toNat % 10 by omega]
theorem itoa_neg {n : Int} (h1 : n < 0) : Lib.itoa n = 45 :: Lib.itoa (-n) := by
  rw [Lib.itoa, if_pos h1, Lib.itoa, if_neg (by omega), show n.natAbs = (-n).toNat by omega]
theorem dec_len : ∀ (k : Nat) {n : Nat}, n < 10 ^ (k + 1) → (Lib.decDigits n).length ≤ k + 1
  | 0, n, h => by rw [Lib.decDigits, dif_pos (by simpa using h)]; simp
  | k + 1, n, h => by
    rw [Lib.decDigits]
    split
    · simp
    · rw [List.length_append]
      have := dec_len k (n := n / 10) (by rw [Nat.pow_succ] at h; omega)
      simp; omega
theorem itoa_len6 {n : Int} (h0 : 0 ≤ n) (h1 : n < 1000000) : (Lib.itoa n).length ≤ 6 := by
  rw [Lib.itoa, if_neg (by omega)]
  exact dec_len 5 (by omega)
theorem itoa_len20 {n : Int} (h0 : -9223372036854775808 ≤ n) (h1 : n ≤ 9223372036854775807) : (Lib.itoa n).length ≤ 20 := by
  rw [Lib.itoa]
  split
  · have := dec_len 18 (n := n.natAbs) (by omega)
    simp; omega
  · have := dec_len 18 (n := n.toNat) (by omega)
    omega
theorem dec_digit : ∀ (k : Nat) {n : Nat}, n < k → ∀ c ∈ Lib.decDigits n, 48 ≤ c.toNat ∧ c.toNat ≤ 57
  | 0, n, h, _, _ => absurd h (Nat.not_lt_zero _)
  | k + 1, n, h, c, hc => by
    rw [Lib.decDigits] at hc
    split at hc
    · obtain rfl := List.mem_singleton.1 hc
      rename_i h2
      rw [UInt8.toNat_ofNat']; omega
    · rcases List.mem_append.1 hc with h3 | h3
      · exact dec_digit k (n := n / 10) (by omega) c h3
      · obtain rfl := List.mem_singleton.1 h3
        rw [UInt8.toNat_ofNat']; omega
theorem itoa_digit {n : Int} (h0 : 0 ≤ n) : ∀ c ∈ Lib.itoa n, 48 ≤ c.toNat ∧ c.toNat ≤ 57 := by
  rw [Lib.itoa, if_neg (by omega)]
  exact dec_digit (n.toNat + 1) (Nat.lt_succ_self _)

/-! The sum of a text. -/
def sumI (l : Bytes) : Int := l.foldl (fun h c => (41 * h + (c.toNat : Int) + 1) % 999979) 7
theorem sumI_range (l : Bytes) : 0 ≤ sumI l ∧ sumI l < 999979 := by
  unfold sumI
  have key : ∀ (l : Bytes) (h : Int), 0 ≤ h ∧ h < 999979 → 0 ≤ l.foldl (fun h c => (41 * h + (c.toNat : Int) + 1) % 999979) h ∧ l.foldl (fun h (c : UInt8) => (41 * h + (c.toNat : Int) + 1) % 999979) h < 999979 := by
    intro l
    induction l with
    | nil => intro h hh; exact hh
    | cons c l ih => intro h hh; exact ih _ ⟨Int.emod_nonneg _ (by decide), Int.emod_lt_of_pos _ (by decide)⟩
  exact key l 7 (by decide)
theorem sumI_snoc (l : Bytes) (c : UInt8) : sumI (l ++ [c]) = (41 * sumI l + (c.toNat : Int) + 1) % 999979 := by simp [sumI]
theorem take_succ_getD {l : Bytes} {i : Nat} (h : i < l.length) : l.take (i + 1) = l.take i ++ [l.getD i 0] := by
  rw [List.take_add_one, List.getD_eq_getElem?_getD, List.getElem?_eq_getElem h]; rfl
theorem sumI_succ {l : Bytes} {i : Nat} (h : i < l.length) : sumI (l.take (i + 1)) = (41 * sumI (l.take i) + ((l.getD i 0).toNat : Int) + 1) % 999979 := by
  rw [take_succ_getD h, sumI_snoc]
def sealL (l : Bytes) : Bytes := l ++ [35] ++ Lib.itoa (sumI l)
theorem sealL_len (l : Bytes) : (sealL l).length ≤ l.length + 7 := by
  have := sumI_range l
  have := itoa_len6 this.1 (by omega)
  simp [sealL]; omega

/-! Cut at a byte. -/
def cutL (l : Bytes) (c : UInt8) : Bytes × Bytes × Bool := if l.contains c then (l.takeWhile (· != c), (l.dropWhile (· != c)).tail, true) else (l, [], false)
theorem while_at {c : UInt8} : ∀ {l : Bytes} {o : Nat}, l[o]? = some c → (∀ j, j < o → l[j]? ≠ some c) → l.takeWhile (· != c) = l.take o ∧ (l.dropWhile (· != c)).tail = l.drop (o + 1) ∧ l.contains c = true
  | [], o, h, _ => by simp at h
  | x :: l, 0, h, _ => by
    simp at h; subst h
    simp
  | x :: l, o + 1, h, h2 => by
    have hx : (x != c) = true := by
      have := h2 0 (Nat.succ_pos _)
      simpa using this
    obtain ⟨g1, g2, g3⟩ := while_at (l := l) (o := o) (by simpa using h) (fun j hj => by simpa using h2 (j + 1) (by omega))
    refine ⟨?_, ?_, ?_⟩
    · rw [List.takeWhile_cons, hx, if_pos rfl, g1, List.take_succ_cons]
    · rw [List.dropWhile_cons, hx, if_pos rfl, g2, List.drop_succ_cons]
    · rw [List.contains_cons, g3, Bool.or_true]
theorem cut_hit {l : Bytes} {c : UInt8} {o : Nat} (h : Lib.indexByte l c = (o : Int)) : cutL l c = (l.take o, l.drop (o + 1), true) ∧ o < l.length := by
  obtain ⟨h1, h2⟩ := Lib.indexByte_some h
  obtain ⟨g1, g2, g3⟩ := while_at h1 (fun j hj => h2 j hj)
  refine ⟨?_, ?_⟩
  · rw [cutL, if_pos g3, g1, g2]
  · rcases Nat.lt_or_ge o l.length with h | h
    · exact h
    · rw [List.getElem?_eq_none h] at h1; cases h1
theorem cut_miss {l : Bytes} {c : UInt8} (h : Lib.indexByte l c < 0) : cutL l c = (l, [], false) := by
  have hg := Lib.indexByte_ge l c
  have h2 : Lib.indexByte l c = -1 := by omega
  have hc : l.contains c = false := by
    cases e : l.contains c with
    | false => rfl
    | true =>
      rw [List.contains_iff_mem] at e
      obtain ⟨i, hi, e⟩ := List.getElem_of_mem e
      exact absurd (by rw [List.getElem?_eq_getElem hi, e]) (Lib.indexByte_none h2 i)
  rw [cutL, hc]; rfl
theorem cut_no {l : Bytes} {c : UInt8} (h : c ∉ l) : cutL l c = (l, [], false) := by
  rw [cutL, if_neg (by simpa using h)]
theorem cut_at {a b : Bytes} {c : UInt8} (h : c ∉ a) : cutL (a ++ c :: b) c = (a, b, true) := by
  obtain ⟨g1, g2, g3⟩ := while_at (c := c) (l := a ++ c :: b) (o := a.length) (by simp) (fun j hj e => by
    rw [List.getElem?_append_left hj, List.getElem?_eq_getElem hj] at e
    exact h (Option.some.inj e ▸ List.getElem_mem hj))
  rw [cutL, if_pos g3, g1, g2]
  simp
theorem cut_len (l : Bytes) (c : UInt8) : (cutL l c).1.length + (if (cutL l c).2.2 = true then 1 else 0) + (cutL l c).2.1.length = l.length := by
  unfold cutL
  split
  · rename_i h
    have h2 : l.takeWhile (· != c) ++ l.dropWhile (· != c) = l := List.takeWhile_append_dropWhile
    have h3 : (l.dropWhile (· != c)) ≠ [] := by
      intro e
      rw [e, List.append_nil] at h2
      have hm := List.contains_iff_mem.1 h
      rw [← h2] at hm
      have key : ∀ l : Bytes, c ∉ l.takeWhile (· != c) := fun l => by
        induction l with
        | nil => simp
        | cons x l ih =>
          rw [List.takeWhile_cons]
          split
          · rename_i hx
            intro hm
            rcases List.mem_cons.1 hm with rfl | hm
            · simp at hx
            · exact ih hm
          · simp
      exact key l hm
    have h4 := congrArg List.length h2
    rw [List.length_append] at h4
    have h5 : 0 < (l.dropWhile (· != c)).length := List.length_pos_iff.2 h3
    simp only [List.length_tail, if_true]
    omega
  · simp

/-! Split at a byte. -/
def splitL (l : Bytes) (b : UInt8) : List Bytes :=
  match l with
  | [] => [[]]
  | c :: l => if c = b then [] :: splitL l b else match splitL l b with | [] => [[c]] | h :: t => (c :: h) :: t
theorem splitL_ne (l : Bytes) (b : UInt8) : splitL l b ≠ [] := by
  cases l with
  | nil => simp [splitL]
  | cons c l => unfold splitL; split <;> (try split) <;> simp
theorem split_snoc {b : UInt8} (c : UInt8) : ∀ {l : Bytes} {out : List Bytes} {cur : Bytes}, splitL l b = out ++ [cur] → splitL (l ++ [c]) b = if c = b then out ++ [cur] ++ [[]] else out ++ [cur ++ [c]]
  | [], out, cur, h => by
    simp only [splitL] at h
    cases out with
    | nil => simp at h; subst h; simp only [List.nil_append, splitL]; split <;> rfl
    | cons x out => simp at h
  | x :: l, out, cur, h => by
    simp only [List.cons_append, splitL] at h ⊢
    by_cases hx : x = b
    · rw [if_pos hx] at h ⊢
      cases out with
      | nil => simp at h; exact absurd h.2 (splitL_ne l b)
      | cons y out =>
        simp only [List.cons_append, List.cons.injEq] at h
        obtain ⟨rfl, h⟩ := h
        rw [split_snoc c h]
        split <;> simp
    · rw [if_neg hx] at h ⊢
      cases hs : splitL l b with
      | nil => exact absurd hs (splitL_ne l b)
      | cons p q =>
        rw [hs] at h
        simp only at h
        cases out with
        | nil =>
          simp only [List.nil_append, List.cons.injEq] at h
          obtain ⟨h1, rfl⟩ := h
          have := split_snoc c (l := l) (out := []) (cur := p) hs
          rw [this]
          subst h1
          by_cases hb : c = b <;> simp [hb]
        | cons y out =>
          simp only [List.cons_append, List.cons.injEq] at h
          obtain ⟨h1, h⟩ := h
          subst h1 h
          have := split_snoc c (l := l) (out := p :: out) (cur := cur) (by rw [hs]; rfl)
          rw [this]
          by_cases hb : c = b <;> simp [hb]
theorem split_head {b : UInt8} : ∀ (l : Bytes), ∃ t, splitL l b = (l.takeWhile (· != b)) :: t ∧ (t ≠ [] ↔ b ∈ l)
  | [] => ⟨[], rfl, by simp⟩
  | c :: l => by
    obtain ⟨t, h1, h2⟩ := split_head (b := b) l
    unfold splitL
    by_cases hc : c = b
    · subst hc
      exact ⟨splitL l c, by simp, by simp [splitL_ne]⟩
    · rw [if_neg hc, h1]
      refine ⟨t, by simp [hc], ?_⟩
      rw [h2]; simp [Ne.symm hc]
theorem split_cut {b : UInt8} (l : Bytes) : ∃ t, splitL l b = (cutL l b).1 :: t ∧ (t ≠ [] ↔ (cutL l b).2.2 = true) := by
  obtain ⟨t, h1, h2⟩ := split_head (b := b) l
  refine ⟨t, ?_, ?_⟩
  · rw [h1, cutL]
    split
    · rfl
    · rename_i h
      congr 1
      have : ∀ x ∈ l, (x != b) = true := fun x hx => by
        have hm : b ∉ l := by simpa using h
        simp only [bne_iff_ne, ne_eq]; intro e; exact hm (e ▸ hx)
      clear h1 h2
      induction l with
      | nil => rfl
      | cons x l ih =>
        rw [List.takeWhile_cons, this x (List.mem_cons_self ..), if_pos rfl]
        rw [ih (by simp_all) (fun y hy => this y (List.mem_cons_of_mem _ hy))]
  · rw [h2, cutL]
    split <;> simp_all
end Go.Proofs.YtbhlncohfpempaaDoor
