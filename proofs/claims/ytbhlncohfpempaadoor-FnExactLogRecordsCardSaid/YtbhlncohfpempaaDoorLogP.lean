/- Lines and logs: plain facts; no condition. -/
import Derived.Test.YtbhlncohfpempaaDoorLogD
set_option linter.unusedSimpArgs false
set_option linter.unusedVariables false
set_option maxRecDepth 100000
set_option maxHeartbeats 4000000
namespace Go.Proofs.YtbhlncohfpempaaDoor
open Go Go.Eng
/-! Both ways of reading a line are one. -/
def lineOf (k : Int) (s : ByteArray) (e : LogRec2) : Prop := (0 ≤ k ∧ k ≤ 59) ∧ recB e = true ∧ ∃ a b : Bytes, bs s = a ++ b ∧ a = lineL k (bs e.c) (bs e.r)
theorem lineL_eq (k : Int) (c r : Bytes) : lineL k c r = (Lib.itoa k ++ 32 :: (c ++ 64 :: (r ++ 35 :: Lib.itoa (sumI (textL k c r))))) ++ [10] := by
  simp [lineL, sealL, textL]
theorem itoa_no {k : Int} (h : 0 ≤ k) {c : UInt8} (hc : c.toNat < 48 ∨ 57 < c.toNat) : c ∉ Lib.itoa k := fun hm => by
  have := itoa_digit h c hm
  omega
theorem ok_no {c r : Bytes} (h : recOK c r) : (35 : UInt8) ∉ c ∧ (64 : UInt8) ∉ c ∧ (10 : UInt8) ∉ c ∧ (35 : UInt8) ∉ r ∧ (10 : UInt8) ∉ r := by
  refine ⟨fun hm => ?_, fun hm => ?_, fun hm => ?_, fun hm => ?_, fun hm => ?_⟩
  · exact (h.2.1 _ hm).1.2.2 rfl
  · exact (h.2.1 _ hm).2 rfl
  · have := (h.2.1 _ hm).1.1; simp at this
  · exact (h.2.2 _ hm).2.2 rfl
  · have := (h.2.2 _ hm).1; simp at this
/-- The line without its end. -/
def bareL (k : Int) (c r : Bytes) : Bytes := Lib.itoa k ++ 32 :: (c ++ 64 :: (r ++ 35 :: Lib.itoa (sumI (textL k c r))))
theorem bare_no {k : Int} (hk : 0 ≤ k) {c r : Bytes} (h : recOK c r) : (10 : UInt8) ∉ bareL k c r := by
  obtain ⟨_, _, h1, _, h2⟩ := ok_no h
  have h3 := itoa_no hk (c := 10) (by decide)
  have h4 := itoa_no (sumI_range (textL k c r)).1 (c := 10) (by decide)
  simp only [bareL, List.mem_append, List.mem_cons, not_or]
  exact ⟨h3, by decide, h1, by decide, h2, by decide, h4⟩
theorem lineL_bare (k : Int) (c r : Bytes) : lineL k c r = bareL k c r ++ [10] := lineL_eq k c r
theorem lit_byte (c : UInt8) : (bs ({ data := #[c] } : ByteArray)).getD 0 0 = c := rfl
theorem mk_eq_line {k : Int} {c r : Bytes} {l : Bytes} : ((mk (lineL k c r)).toList == (mk l ++ ({ data := #[10] } : ByteArray)).toList) = true ↔ bareL k c r = l := by
  rw [str_eq, decide_eq_true_eq, bs_app, bs_mk, bs_mk, lineL_bare]
  show bareL k c r ++ [10] = l ++ [10] ↔ _
  exact List.append_left_inj [10]
theorem rdO_some {k : Int} {s : ByteArray} {e : LogRec2} {n : Int} : rdO k s = some (e, n) ↔ ((0 ≤ k ∧ k ≤ 59) ∧ recB e = true ∧ ∃ t, bs s = bareL k (bs e.c) (bs e.r) ++ 10 :: t ∧ n = (bareL k (bs e.c) (bs e.r)).length + 1) := by
  constructor
  · intro h
    unfold rdO at h
    split at h
    · cases h
    split at h
    · cases h
    split at h
    · cases h
    rename_i h1 h2 h3
    simp only [Bool.not_eq_false] at h1 h2 h3
    obtain ⟨rfl, rfl⟩ := Prod.mk.inj (Option.some.inj h)
    rw [Bool.and_eq_true] at h2
    have h4 := mk_eq_line.1 h3
    have hk := h2.1
    simp only [inB, Bool.and_eq_true, decide_eq_true_eq] at hk
    refine ⟨hk, h2.2, ?_⟩
    have hA : rA s = cutL (bs s) 10 := rfl
    rw [hA] at h1 h4
    by_cases hc : (bs s).contains 10 = true
    · have hm := List.contains_iff_mem.1 hc
      obtain ⟨p, q, hq, hp⟩ := List.eq_append_cons_of_mem hm
      have := cut_at (b := q) hp
      rw [hq, this] at h4
      refine ⟨q, ?_, ?_⟩
      · rw [hq, h4]
      · rw [size_mk, lineL_bare, List.length_append]; rfl
    · rw [cutL, if_neg hc] at h1; cases h1
  · rintro ⟨hk, hr, t, hs, rfl⟩
    have hok := recB_iff.1 hr
    obtain ⟨n1, n2, n3, n4, n5⟩ := ok_no hok
    have hA : rA s = (bareL k (bs e.c) (bs e.r), t, true) := by
      show cutL (bs s) 10 = _
      rw [hs]; exact cut_at (bare_no hk.1 hok)
    have hB : (rB s).1 = Lib.itoa k ++ 32 :: (bs e.c ++ 64 :: bs e.r) := by
      show (cutL (rA s).1 35).1 = _
      rw [hA]
      have : bareL k (bs e.c) (bs e.r) = (Lib.itoa k ++ 32 :: (bs e.c ++ 64 :: bs e.r)) ++ 35 :: Lib.itoa (sumI (textL k (bs e.c) (bs e.r))) := by simp [bareL]
      rw [this, cut_at]
      simp only [List.mem_append, List.mem_cons, not_or]
      exact ⟨itoa_no hk.1 (by decide), by decide, n1, by decide, n4⟩
    have hC : (rC s).2.1 = bs e.c ++ 64 :: bs e.r := by
      show (cutL (rB s).1 32).2.1 = _
      rw [hB, cut_at (itoa_no hk.1 (by decide))]
    have hD : rD s = (bs e.c, bs e.r, true) := by
      show cutL (rC s).2.1 64 = _
      rw [hC, cut_at n2]
    have e1 : (⟨mk (rD s).1, mk (rD s).2.1⟩ : LogRec2) = e := by rw [hD]; cases e; simp only [mk_bs]
    have e2 : bs (mk (rD s).1) = bs e.c ∧ bs (mk (rD s).2.1) = bs e.r := by rw [hD]; exact ⟨rfl, rfl⟩
    have hkb : inB k 0 59 = true := by simp only [inB, Bool.and_eq_true, decide_eq_true_eq]; exact hk
    unfold rdO
    rw [if_neg (by rw [hA]; simp), if_neg (by rw [e1, hkb, hr]; simp), if_neg (by rw [e2.1, e2.2, hA, mk_eq_line.2 rfl]; simp), e1, e2.1, e2.2, size_mk, lineL_bare, List.length_append]
    rfl
/-! The reference's way. -/
theorem head_opq (l : Bytes) (b : UInt8) : (opq (List.map mk (splitL l b))).getD (0 + Int.toNat 0 * y9.size) ByteArray.empty = mk (cutL l b).1 := by
  obtain ⟨t, h, _⟩ := split_cut (b := b) l
  rw [opq_eq, h]
  rfl
theorem len_opq (l : Bytes) (b : UInt8) : 2 ≤ (opq (List.map mk (splitL l b))).length ↔ (cutL l b).2.2 = true := by
  obtain ⟨t, h, h2⟩ := split_cut (b := b) l
  rw [opq_eq, h, List.length_map, ← h2]
  cases t <;> simp
theorem dT_eq (s : ByteArray) : dT s = mk (cutL (bs s) 35).1 := head_opq (bs s) 35
theorem dH_eq (k : Int) : dH k = mk (Lib.itoa k ++ [32]) := (mk_app _ _).symm
theorem dc_of {k : Int} {s : ByteArray} {e : LogRec2} (hk : 0 ≤ k ∧ k ≤ 59) (hr : recB e = true) (hs : bs s = bareL k (bs e.c) (bs e.r)) (hl : s.size ≤ 100000) : dcB k s = true ∧ dcE k s = e := by
  have hok := recB_iff.1 hr
  obtain ⟨n1, n2, n3, n4, n5⟩ := ok_no hok
  have h1 : dT s = mk (Lib.itoa k ++ 32 :: (bs e.c ++ 64 :: bs e.r)) := by
    rw [dT_eq, hs]
    have : bareL k (bs e.c) (bs e.r) = (Lib.itoa k ++ 32 :: (bs e.c ++ 64 :: bs e.r)) ++ 35 :: Lib.itoa (sumI (textL k (bs e.c) (bs e.r))) := by simp [bareL]
    rw [this, cut_at]
    simp only [List.mem_append, List.mem_cons, not_or]
    exact ⟨itoa_no hk.1 (by decide), by decide, n1, by decide, n4⟩
  have hH : (dH k).size = (Lib.itoa k).length + 1 := by rw [dH_eq, size_mk]; simp
  have h2 : ¬ ((dT s).size : Int) < (dH k).size := by
    rw [h1, hH, size_mk]; simp; omega
  have h3 : ¬ (((dT s).extract 0 ((dH k).size : Int).toNat).toList == (dH k).toList) = false := by
    rw [str_eq, bs_ext, h1, bs_mk, Int.toNat_natCast, hH, dH_eq, bs_mk]
    simp [List.take_append]
    exact List.take_of_length_le (Nat.le_succ _)
  have h4 : dR k s = mk (bs e.c ++ 64 :: bs e.r) := by
    refine str_ext ?_
    show bs ((dT s).extract ((dH k).size : Int).toNat (dT s).size) = _
    rw [bs_ext, bs_take, h1, bs_mk, Int.toNat_natCast, hH, bs_mk]
    simp [List.drop_append]
  have h5 : dA k s = e.c := by
    show (opq (List.map mk (splitL (bs (dR k s)) (UInt8.ofNat (Int.toNat 64))))).getD (0 + Int.toNat 0 * y9.size) ByteArray.empty = _
    rw [head_opq, h4, bs_mk]
    show mk (cutL _ 64).1 = _
    rw [cut_at n2, mk_bs]
  have h6 : ¬ ((dA k s).size : Int) = (dR k s).size := by
    rw [h5, h4, size_mk]; simp [bs_len]; omega
  have hc : e.c.size ≤ 100000 := by
    have := congrArg List.length hs
    rw [bs_len] at this
    simp [bareL, bs_len] at this; omega
  have h7 : dQ k s = e.r := by
    refine str_ext ?_
    show bs ((dR k s).extract (IntKind.i64.wrap (((dA k s).size : Int) + 1)).toNat (dR k s).size) = _
    rw [bs_ext, bs_take, h5, h4, bs_mk, Go.Eng.wrap_small (by omega)]
    have : ((e.c.size : Int) + 1).toNat = (bs e.c).length + 1 := by rw [bs_len]; omega
    rw [this]
    simp [List.drop_append]
  unfold dcB dcE
  rw [if_neg h2, if_neg h3, if_neg h6, if_neg h2, if_neg h3, if_neg h6, h5, h7]
  refine ⟨?_, rfl⟩
  have hr' : recB ⟨e.c, e.r⟩ = true := hr
  rw [hr', Bool.true_and, ← mk_bs s, hs]
  exact mk_eq_line.2 rfl
theorem dc_out {k : Int} {s : ByteArray} (h : dcB k s = true) : recB (dcE k s) = true ∧ bs s = bareL k (bs (dcE k s).c) (bs (dcE k s).r) := by
  unfold dcB at h
  unfold dcE
  split at h
  · cases h
  rename_i h1
  rw [if_neg h1]
  split at h
  · cases h
  rename_i h2
  rw [if_neg h2]
  split at h
  · cases h
  rename_i h3
  rw [if_neg h3]
  rw [Bool.and_eq_true] at h
  refine ⟨h.1, ?_⟩
  have h4 := h.2
  rw [← mk_bs s] at h4
  have := mk_eq_line.1 h4
  rw [mk_bs] at this
  exact this.symm
/-- Both ways of reading a line are one. -/
theorem rd_dc {k : Int} {s : ByteArray} (hk : 0 ≤ k ∧ k ≤ 59) (hl : s.size ≤ 100000) :
    ((rdO k s).isSome = true ↔ 2 ≤ (opq (List.map mk (splitL (bs s) 10))).length ∧ dcB k (mk (cutL (bs s) 10).1) = true) ∧
    ((rdO k s).isSome = true → ((rdO k s).getD (rZ, 0)).1 = dcE k (mk (cutL (bs s) 10).1) ∧ ((rdO k s).getD (rZ, 0)).2 = ((cutL (bs s) 10).1.length : Int) + 1) := by
  have hlc : (mk (cutL (bs s) 10).1).size ≤ 100000 := Nat.le_trans (cut_le1 (bs s) 10) hl
  have fw : ∀ e n, rdO k s = some (e, n) → (cutL (bs s) 10).2.2 = true ∧ dcB k (mk (cutL (bs s) 10).1) = true ∧ e = dcE k (mk (cutL (bs s) 10).1) ∧ n = ((cutL (bs s) 10).1.length : Int) + 1 := by
    intro e n h
    obtain ⟨_, hr, t, hs, hn⟩ := rdO_some.1 h
    have hc : cutL (bs s) 10 = (bareL k (bs e.c) (bs e.r), t, true) := by rw [hs]; exact cut_at (bare_no hk.1 (recB_iff.1 hr))
    have := dc_of (s := mk (cutL (bs s) 10).1) hk hr (by rw [hc]; rfl) hlc
    exact ⟨by rw [hc], this.1, this.2.symm, by rw [hc]; exact hn⟩
  refine ⟨⟨fun h => ?_, fun ⟨h1, h2⟩ => ?_⟩, fun h => ?_⟩
  · obtain ⟨⟨e, n⟩, hx⟩ := Option.isSome_iff_exists.1 h
    obtain ⟨g1, g2, _⟩ := fw e n hx
    exact ⟨(len_opq _ _).2 g1, g2⟩
  · have h3 := (len_opq _ _).1 h1
    obtain ⟨g1, g2⟩ := dc_out h2
    rw [bs_mk] at g2
    have hm : (10 : UInt8) ∈ bs s := by
      unfold cutL at h3
      split at h3
      · rename_i h5; exact List.contains_iff_mem.1 h5
      · cases h3
    obtain ⟨p, q, hq, hp⟩ := List.eq_append_cons_of_mem hm
    have hc := cut_at (b := q) hp
    rw [← hq] at hc
    rw [hc] at g2
    have : rdO k s = some (dcE k (mk (cutL (bs s) 10).1), ((bareL k (bs (dcE k (mk (cutL (bs s) 10).1)).c) (bs (dcE k (mk (cutL (bs s) 10).1)).r)).length : Int) + 1) := rdO_some.2 ⟨hk, g1, q, by rw [← hc] at g2; rw [← g2, hc]; exact hq, rfl⟩
    rw [this]; rfl
  · obtain ⟨⟨e, n⟩, hx⟩ := Option.isSome_iff_exists.1 h
    obtain ⟨_, _, g3, g4⟩ := fw e n hx
    rw [hx]; exact ⟨g3, g4⟩
/-! The records of a text, one by one. -/
def recO (s : ByteArray) (j a : Nat) : Option (LogRec2 × Int) := rdO (j : Int) (s.extract a s.size)
def atU (s : ByteArray) : Nat → Nat
  | 0 => 0
  | i + 1 => atU s i + ((recO s i (atU s i)).getD (rZ, 0)).2.toNat
def okU (s : ByteArray) (j : Nat) : Bool := (recO s j (atU s j)).isSome
def recAt (s : ByteArray) (j : Nat) : LogRec2 := ((recO s j (atU s j)).getD (rZ, 0)).1
noncomputable def lenU (s : ByteArray) : Nat := opq ((List.range 61).findIdx fun j => !okU s j)
theorem lenU_eq (s : ByteArray) : lenU s = (List.range 61).findIdx fun j => !okU s j := opq_eq _
def recsU (s : ByteArray) (i : Nat) : List ByteArray := (List.range i).flatMap fun j => [(recAt s j).c, (recAt s j).r]
def endsU (s : ByteArray) (i : Nat) : List Int := (List.range (i + 1)).map fun j => (atU s j : Int)
theorem rdO_60 (s : ByteArray) : rdO 60 s = none := by
  cases h : rdO 60 s with
  | none => rfl
  | some x =>
    obtain ⟨e, n⟩ := x
    have := (rdO_some.1 h).1; omega
theorem okU_60 (s : ByteArray) : okU s 60 = false := by
  unfold okU recO
  rw [show ((60 : Nat) : Int) = 60 from rfl, rdO_60]; rfl
theorem lenU_le (s : ByteArray) : lenU s ≤ 60 := by
  have h : lenU s < (List.range 61).length := by
    rw [lenU_eq]
    exact List.findIdx_lt_length_of_exists ⟨60, by simp, by rw [okU_60]; rfl⟩
  rw [List.length_range] at h; omega
theorem lenU_ok {s : ByteArray} {j : Nat} (h : j < lenU s) : okU s j = true := by
  have h2 := lenU_le s
  have := List.not_of_lt_findIdx (p := fun j => !okU s j) (xs := List.range 61) (i := j) (by rw [← lenU_eq]; exact h)
  simpa using this
theorem lenU_no (s : ByteArray) : okU s (lenU s) = false := by
  have h : (List.range 61).findIdx (fun j => !okU s j) < (List.range 61).length := by
    have := lenU_le s
    rw [← lenU_eq]
    rw [List.length_range]; omega
  have := List.findIdx_getElem (w := h)
  rw [lenU_eq]
  simpa using this
theorem lenU_of {s : ByteArray} {j : Nat} (h1 : ∀ i, i < j → okU s i = true) (h2 : okU s j = false) : lenU s = j := by
  rcases Nat.lt_trichotomy (lenU s) j with h | h | h
  · have := h1 _ h; rw [lenU_no] at this; cases this
  · exact h
  · have := lenU_ok h; rw [h2] at this; cases this
theorem recsU_succ (s : ByteArray) (i : Nat) : recsU s (i + 1) = recsU s i ++ [(recAt s i).c, (recAt s i).r] := by simp [recsU, List.range_succ]
theorem recsU_len (s : ByteArray) (i : Nat) : (recsU s i).length = i * 2 := by
  induction i with
  | zero => rfl
  | succ i ih => rw [recsU_succ, List.length_append, ih]; simp; omega
theorem endsU_succ (s : ByteArray) (i : Nat) : endsU s (i + 1) = endsU s i ++ [(atU s (i + 1) : Int)] := by simp [endsU, List.range_succ]
theorem endsU_len (s : ByteArray) (i : Nat) : (endsU s i).length = i + 1 := by simp [endsU]
theorem endsU_at {s : ByteArray} {i j : Nat} (h : j ≤ i) : (endsU s i).getD j 0 = (atU s j : Int) := by
  rw [List.getD_eq_getElem?_getD]
  simp [endsU, Nat.lt_succ_of_le h]
theorem ok_step {s : ByteArray} {j : Nat} (h : okU s j = true) : ∃ e n, recO s j (atU s j) = some (e, n) ∧ 1 ≤ n ∧ atU s (j + 1) = atU s j + n.toNat ∧ recAt s j = e ∧ (atU s j : Int) + n ≤ s.size ∧ (j : Int) ≤ 59 := by
  obtain ⟨⟨e, n⟩, hx⟩ := Option.isSome_iff_exists.1 h
  have hx0 := hx
  unfold recO at hx0
  obtain ⟨hk, _, t, hs, hn⟩ := rdO_some.1 hx0
  refine ⟨e, n, hx, by omega, by simp only [atU, hx, Option.getD_some], by simp only [recAt, hx, Option.getD_some], ?_, hk.2⟩
  have := congrArg List.length hs
  rw [bs_len, size_ext, Nat.min_self, List.length_append] at this
  simp at this
  omega
theorem atU_le {s : ByteArray} : ∀ {i : Nat}, i ≤ lenU s → atU s i ≤ s.size
  | 0, _ => Nat.zero_le _
  | i + 1, h => by
    obtain ⟨e, n, _, h1, h2, _, h3, _⟩ := ok_step (lenU_ok (Nat.lt_of_succ_le h))
    rw [h2]; omega
theorem recO_ext {s p : ByteArray} {j a : Nat} {e : LogRec2} {n : Int} (ha : a ≤ s.size) (h : recO s j a = some (e, n)) : recO (s ++ p) j a = some (e, n) := by
  unfold recO at *
  obtain ⟨hk, hr, t, hs, hn⟩ := rdO_some.1 h
  refine rdO_some.2 ⟨hk, hr, t ++ bs p, ?_, hn⟩
  rw [bs_ext, bs_take] at hs ⊢
  rw [bs_app, List.drop_append_of_le_length (by rw [bs_len]; exact ha), hs]
  simp
theorem recO_cut {s p : ByteArray} {j a : Nat} {e : LogRec2} {n : Int} (ha : (a : Int) + n ≤ s.size) (h : recO (s ++ p) j a = some (e, n)) : recO s j a = some (e, n) := by
  unfold recO at *
  obtain ⟨hk, hr, t, hs, hn⟩ := rdO_some.1 h
  rw [bs_ext, bs_take] at hs
  have hn1 : 1 ≤ n := by omega
  rw [bs_app, List.drop_append_of_le_length (by rw [bs_len]; omega)] at hs
  have hl : ((bs s).drop a).length = s.size - a := by rw [List.length_drop, bs_len]
  refine rdO_some.2 ⟨hk, hr, ((bs s).drop a).drop n.toNat, ?_, hn⟩
  rw [bs_ext, bs_take]
  have h2 := congrArg (List.take n.toNat) hs
  have h3 : n.toNat = (bareL (j : Int) (bs e.c) (bs e.r)).length + 1 := by omega
  rw [List.take_append_of_le_length (by rw [hl]; omega)] at h2
  have h4 : List.take n.toNat (bareL (j : Int) (bs e.c) (bs e.r) ++ 10 :: t) = bareL (j : Int) (bs e.c) (bs e.r) ++ [10] := by
    rw [h3, List.take_append, List.take_of_length_le (Nat.le_succ _)]; simp
  rw [h4] at h2
  have h5 := List.take_append_drop n.toNat ((bs s).drop a)
  rw [h2] at h5
  conv => lhs; rw [← h5]
  rw [List.append_assoc]; rfl
theorem split_log (d p : ByteArray) : (∃ j, j ≤ lenU (d ++ p) ∧ atU (d ++ p) j = d.size) ↔ atU d (lenU d) = d.size := by
  constructor
  · rintro ⟨j, hj, hat⟩
    have mono : ∀ i, i ≤ j → atU (d ++ p) i ≤ d.size := by
      have key : ∀ m i, i + m = j → atU (d ++ p) i ≤ d.size := by
        intro m
        induction m with
        | zero => intro i hi; obtain rfl : i = j := by omega
                  omega
        | succ m ih =>
          intro i hi
          obtain ⟨e, n, _, h1, h2, _⟩ := ok_step (lenU_ok (Nat.lt_of_lt_of_le (by omega : i < j) hj))
          have := ih (i + 1) (by omega)
          rw [h2] at this; omega
      intro i hi
      exact key (j - i) i (by omega)
    have same : ∀ i, i ≤ j → atU d i = atU (d ++ p) i ∧ ∀ i', i' < i → okU d i' = true := by
      intro i
      induction i with
      | zero => intro _; exact ⟨rfl, fun i' h => absurd h (Nat.not_lt_zero _)⟩
      | succ i ih =>
        intro hi
        obtain ⟨h1, h2⟩ := ih (by omega)
        obtain ⟨e, n, g1, g2, g3, _⟩ := ok_step (lenU_ok (Nat.lt_of_lt_of_le (by omega : i < j) hj))
        have hm := mono (i + 1) hi
        rw [g3] at hm
        rw [← h1] at g1 hm
        have g4 := recO_cut (by omega) g1
        refine ⟨?_, fun i' hi' => ?_⟩
        · rw [g3]; simp only [atU, g4, Option.getD_some]; rw [h1]
        · rcases Nat.lt_or_ge i' i with h | h
          · exact h2 i' h
          · obtain rfl : i' = i := by omega
            unfold okU; rw [g4]; rfl
    obtain ⟨s1, s2⟩ := same j (Nat.le_refl _)
    have hl : lenU d = j := by
      refine lenU_of s2 ?_
      unfold okU
      cases hx : recO d j (atU d j) with
      | none => rfl
      | some x =>
        obtain ⟨e, n⟩ := x
        unfold recO at hx
        obtain ⟨_, _, t, hs, _⟩ := rdO_some.1 hx
        rw [s1, hat] at hs
        have := congrArg List.length hs
        rw [bs_len, size_ext] at this
        simp at this
    rw [hl, s1, hat]
  · intro h
    have same : ∀ i, i ≤ lenU d → atU (d ++ p) i = atU d i ∧ ∀ i', i' < i → okU (d ++ p) i' = true := by
      intro i
      induction i with
      | zero => intro _; exact ⟨rfl, fun i' h => absurd h (Nat.not_lt_zero _)⟩
      | succ i ih =>
        intro hi
        obtain ⟨h1, h2⟩ := ih (by omega)
        obtain ⟨e, n, g1, g2, g3, _⟩ := ok_step (lenU_ok (Nat.lt_of_succ_le hi))
        have g4 := recO_ext (p := p) (atU_le (by omega)) g1
        rw [← h1] at g4
        refine ⟨?_, fun i' hi' => ?_⟩
        · rw [g3]; simp only [atU, g4, Option.getD_some]; rw [h1]
        · rcases Nat.lt_or_ge i' i with h | h
          · exact h2 i' h
          · obtain rfl : i' = i := by omega
            unfold okU; rw [g4]; rfl
    obtain ⟨s1, s2⟩ := same _ (Nat.le_refl _)
    refine ⟨lenU d, ?_, by rw [s1, h]⟩
    rcases Nat.lt_or_ge (lenU (d ++ p)) (lenU d) with h3 | h3
    · have := s2 _ h3; rw [lenU_no] at this; cases this
    · exact h3
end Go.Proofs.YtbhlncohfpempaaDoor
