/- The library's Split at a byte: what it computes. -/
import Derived.Test.YtbhlncohfpempaaDoorLibD
set_option linter.unusedSimpArgs false
set_option linter.unusedVariables false
set_option maxRecDepth 100000
set_option maxHeartbeats 4000000
namespace Go.Proofs.YtbhlncohfpempaaDoor
open Go Go.Eng
theorem idx_cons (x : UInt8) (l : Bytes) (c : UInt8) : Lib.indexByte (x :: l) c = if x = c then 0 else if Lib.indexByte l c = -1 then -1 else Lib.indexByte l c + 1 := by
  rw [Lib.indexByte]
  by_cases h : x = c
  · subst h; simp
  · simp [h]
theorem splitL_miss {c : UInt8} : ∀ {l : Bytes}, Lib.indexByte l c < 0 → splitL l c = [l]
  | [], _ => rfl
  | x :: l, h => by
    rw [idx_cons] at h
    have hg := Lib.indexByte_ge l c
    by_cases hx : x = c
    · rw [if_pos hx] at h; omega
    · rw [if_neg hx] at h
      have h2 : Lib.indexByte l c < 0 := by split at h <;> omega
      rw [splitL, if_neg hx, splitL_miss h2]
theorem splitL_hit {c : UInt8} : ∀ {l : Bytes} {o : Nat}, Lib.indexByte l c = (o : Int) → splitL l c = l.take o :: splitL (l.drop (o + 1)) c
  | [], o, h => by simp [Lib.indexByte] at h
  | x :: l, o, h => by
    rw [idx_cons] at h
    have hg := Lib.indexByte_ge l c
    by_cases hx : x = c
    · rw [if_pos hx] at h
      obtain rfl : o = 0 := by omega
      rw [splitL, if_pos hx]; rfl
    · rw [if_neg hx] at h
      obtain ⟨p, rfl⟩ : ∃ p, o = p + 1 := by
        cases o with
        | zero => split at h <;> omega
        | succ p => exact ⟨p, rfl⟩
      have h2 : Lib.indexByte l c = (p : Int) := by split at h <;> omega
      rw [splitL, if_neg hx, splitL_hit h2]
      simp
theorem splitL_len (c : UInt8) : ∀ (l : Bytes), (splitL l c).length = Lib.countByte l c + 1
  | [] => rfl
  | x :: l => by
    have ih := splitL_len c l
    rw [splitL, Lib.countByte, List.count_cons]
    by_cases hx : x = c
    · rw [if_pos hx, List.length_cons, ih, hx]; simp [Lib.countByte]
    · rw [if_neg hx]
      cases hs : splitL l c with
      | nil => exact absurd hs (splitL_ne l c)
      | cons p q => rw [hs] at ih; simp only [List.length_cons] at ih ⊢; rw [ih]; simp [Lib.countByte, hx]
theorem count_le (l : Bytes) (c : UInt8) : Lib.countByte l c ≤ l.length := List.count_le_length
/-- The first i parts, and the rest. -/
structure Part (l : Bytes) (c : UInt8) (i : Nat) (s : ByteArray) : Prop where
  parts : splitL l c = (splitL l c).take i ++ splitL (bs s) c
  le : i ≤ Lib.countByte l c
  size : s.size ≤ l.length
theorem Part.start (s : ByteArray) (c : UInt8) : Part (bs s) c 0 s := ⟨by simp, Nat.zero_le _, by rw [bs_len]; exact Nat.le_refl _⟩
theorem Part.count {l : Bytes} {c : UInt8} {i : Nat} {s : ByteArray} (h : Part l c i s) : Lib.countByte (bs s) c + i = Lib.countByte l c := by
  have h1 := congrArg List.length h.parts
  have := h.le
  rw [List.length_append, List.length_take, splitL_len, splitL_len] at h1
  omega
theorem Part.hit {l : Bytes} {c : UInt8} {i o : Nat} {s : ByteArray} (h : Part l c i s) (ho : Lib.indexByte (bs s) c = (o : Int)) (hi : i < Lib.countByte l c) :
    Part l c (i + 1) (s.extract (o + 1) s.size) ∧ (splitL l c).getD i [] = (bs s).take o := by
  have h1 := h.parts
  have hl : ((splitL l c).take i).length = i := by rw [List.length_take, splitL_len]; omega
  rw [splitL_hit ho] at h1
  have e1 : bs (s.extract (o + 1) s.size) = (bs s).drop (o + 1) := by rw [bs_ext, bs_take]
  have e2 : (splitL l c).take (i + 1) = (splitL l c).take i ++ [(bs s).take o] := by
    generalize hA : (splitL l c).take i = A at h1 hl
    rw [h1, List.take_append, hl, List.take_of_length_le (by omega), show i + 1 - i = 1 by omega]
    rfl
  refine ⟨⟨?_, by omega, ?_⟩, ?_⟩
  · rw [e2, e1, List.append_assoc]; exact h1
  · rw [size_ext]; have := h.size; omega
  · rw [h1, List.getD_eq_getElem?_getD, List.getElem?_append_right (by omega), hl, Nat.sub_self]; rfl
theorem idx_pos {l : Bytes} {c : UInt8} (h : 0 < Lib.countByte l c) : ∃ o : Nat, Lib.indexByte l c = (o : Int) := by
  rcases Int.lt_or_le (Lib.indexByte l c) 0 with h1 | h1
  · have := splitL_len c l
    rw [splitL_miss h1] at this
    simp at this; omega
  · exact Int.eq_ofNat_of_zero_le h1
theorem idx_none {l : Bytes} {c : UInt8} (h : Lib.countByte l c = 0) : splitL l c = [l] := by
  rcases Int.lt_or_le (Lib.indexByte l c) 0 with h1 | h1
  · exact splitL_miss h1
  · obtain ⟨o, ho⟩ := Int.eq_ofNat_of_zero_le h1
    have := splitL_len c l
    rw [splitL_hit ho, List.length_cons, splitL_len] at this
    omega
theorem Part.last {l : Bytes} {c : UInt8} {i : Nat} {s : ByteArray} (h : Part l c i s) (hi : i = Lib.countByte l c) : (splitL l c).getD i [] = bs s := by
  have h1 := h.parts
  have h2 := h.count
  have hl : ((splitL l c).take i).length = i := by rw [List.length_take, splitL_len]; omega
  have h3 : splitL (bs s) c = [bs s] := idx_none (by omega)
  rw [h3] at h1
  generalize hA : (splitL l c).take i = A at h1 hl
  rw [h1, List.getD_eq_getElem?_getD, List.getElem?_append_right (by omega), hl, Nat.sub_self]; rfl
theorem part_put {L : List Bytes} {n i : Nat} (hn : L.length = n) (hi : i < n) {w : ByteArray} (hw : bs w = L.getD i []) : ((L.take i).map mk ++ List.replicate (n - i) (.empty : ByteArray)).set i w = (L.take (i + 1)).map mk ++ List.replicate (n - (i + 1)) .empty := by
  have e : n - i = (n - (i + 1)) + 1 := by omega
  rw [List.set_append_right _ _ (by simp; omega), e, List.replicate_succ]
  have hl : ((L.take i).map mk).length = i := by simp; omega
  rw [hl, Nat.sub_self, List.set_cons_zero, List.take_add_one, List.map_append, List.append_assoc]
  congr 1
  rw [List.getElem?_eq_getElem (by omega)]
  have : w = mk (L[i]'(by omega)) := str_ext (by rw [hw, bs_mk, List.getD_eq_getElem?_getD, List.getElem?_eq_getElem (by omega)]; rfl)
  rw [this]; rfl
noncomputable def genSplit_F : List DV → Option (List DV)
  | [.v (.string s), .v (.string p), .v (.int .i64 v), .v (.int .i64 n)] => if p.size = 1 ∧ s.size ≤ 1048576 ∧ v = 0 ∧ n = -1 then some [.sl 1 (opq ((splitL (bs s) ((bs p).getD 0 0)).map mk)).length (.strs (opq ((splitL (bs s) ((bs p).getD 0 0)).map mk)))] else none
  | _ => none
theorem genSplit_sound : SoundW Tryd.prog 91 (deepSem genSplit_F) := by
  refine deep_sound (env_ok (N := Tryd.f91.ntmps) (l := [e_strCount, e_strIndex]) (live := [(0, [0, 1, 2, 3, 9, 10])]) (ord := [])) Tryd.func91 ?_
  intro ds rs h hg
  unfold genSplit_F at h
  split at h
  case h_2 => cases h
  rename_i s p v n
  split at h
  case isFalse => cases h
  rename_i hpre
  have hp := hpre
  clear hg
  all_goals cases h
  obtain ⟨hp1, hs, rfl, rfl⟩ := hp
  obtain ⟨c, rfl⟩ := one_byte p hp1
  have hc := count_le (bs s) c
  rw [bs_len] at hc
  have hbb : ((⟨#[c]⟩ : ByteArray).toList == (⟨#[]⟩ : ByteArray).toList) = false := by
    rw [str_eq, decide_eq_false_iff_not]; intro h; cases h
  have hM : (if IntKind.i64.wrap ((s.size : Int) + 1) < IntKind.i64.wrap ((Lib.countByte s.data.toList ((⟨#[c]⟩ : ByteArray).data.toList.getD 0 0) : Int) + 1) then IntKind.i64.wrap ((s.size : Int) + 1) else IntKind.i64.wrap ((Lib.countByte s.data.toList ((⟨#[c]⟩ : ByteArray).data.toList.getD 0 0) : Int) + 1)) = ((Lib.countByte (bs s) c + 1 : Nat) : Int) := by
    have h1 : IntKind.i64.wrap ((s.size : Int) + 1) = (s.size : Int) + 1 := Go.Eng.wrap_small (by omega)
    have h2 : IntKind.i64.wrap ((Lib.countByte s.data.toList ((⟨#[c]⟩ : ByteArray).data.toList.getD 0 0) : Int) + 1) = (Lib.countByte (bs s) c : Int) + 1 := Go.Eng.wrap_small (x := (Lib.countByte (bs s) c : Int) + 1) (by omega)
    rw [h1, h2, if_neg (by omega)]; rfl
  have hL := splitL_len c (bs s)
  (refine abody_nb (nb' := 0) rfl ?_; (conv => whnf); refine body_in (by kernel_rfl) (fun K' hK => ?_))
  repeat' (first | (with_reducible refine Step.mk ?_) | ((with_reducible refine a_cons ?_); conv => whnf) | (with_reducible refine k_reg ?_) | (with_reducible refine a_nil ?_) | (with_reducible refine k_seq ?_) | (with_reducible refine w_seq ?_) | (with_reducible refine w_reg ?_) | ((with_reducible refine c_cons ?_); conv => whnf) | (with_reducible refine c_nil ?_) | ((with_reducible refine w_cond ?_); conv => whnf) | (with_reducible refine w_block ?_) | (with_reducible refine k_blk ?_) | (with_reducible refine w_exit ?_) | (with_reducible refine w_ret ?_) | (with_reducible refine w_skip ?_) | (with_reducible refine k_seqe ?_) | (with_reducible refine k_seqr ?_) | (with_reducible refine k_blkr ?_) | (with_reducible refine k_rnde ?_) | (with_reducible refine k_rndr ?_) | (with_reducible refine k_ale ?_) | (with_reducible refine k_alr ?_) | ((with_reducible refine k_blke ?_); conv => whnf) | ((with_reducible refine k_rndn ?_); conv => whnf) | ((with_reducible refine k_aln ?_); conv => whnf) | ((with_reducible refine k_lam ?_); conv => whnf) | ((with_reducible refine w_loop ?_); conv => whnf) | (with_reducible refine w_aloop ?_) | ((with_reducible refine q_cons ?_); conv => whnf) | (with_reducible refine q_nil ?_) | ((with_reducible refine w_isd ?_); first | refine dg_drawn rfl ?_ | refine dg_quiet rfl ?_) | (with_reducible refine body_in (by kernel_rfl) (fun K' hK => ?_)) | (with_reducible refine kout (by assumption) ?_) | ((first | refine WholeK.whole ⟨by first | rfl | omega | (simp; done), by (first | rfl | omega | (simp; done) | (simp; omega) | (simp [*]; done) | (simp [*]; omega))⟩ ?_ | refine WholeK.part ?_ | refine FitK.mk (by first | omega | (simp only [size_one, size_nil]; omega) | (with_reducible assumption) | (simp only [size_app, size_one, size_nil, size_mk, size_ext, size_lit, List.length_append, List.length_cons, List.length_nil]; omega) | (simp only [hsz, size_app, size_one, size_nil, size_mk, size_ext, size_lit, List.length_append, List.length_cons, List.length_nil]; omega)) ?_ | refine chk_intro (by (first | (simp [isOne]; done) | ((try simp only [Bool.and_eq_true, decide_eq_true_eq, Nat.blt_eq, Nat.ble_eq, Nat.beq_eq_true_eq]); simp [isOne]; omega) | (simp [-List.getD_eq_getElem?_getD, isOne, *]; done) | (simp [-List.getD_eq_getElem?_getD, isOne, *]; omega))) ?_ | refine bcase_t (by with_reducible assumption) ?_ | refine bcase_f (by with_reducible assumption) ?_ | refine bcase_dt (by with_reducible assumption) ?_ | refine bcase_df (by with_reducible assumption) ?_ | refine bcase_t (by assumption) ?_ | refine bcase_f (by assumption) ?_ | refine bcase_dt (by assumption) ?_ | refine bcase_df (by assumption) ?_ | refine optK_if (by (first | (with_reducible assumption) | (simp [isOne]; done) | ((try simp only [Bool.and_eq_true, decide_eq_true_eq, Nat.blt_eq, Nat.ble_eq, Nat.beq_eq_true_eq]); simp [isOne]; omega) | (simp [-List.getD_eq_getElem?_getD, isOne, *]; done) | (simp [-List.getD_eq_getElem?_getD, isOne, *]; omega) | omega | assumption)) ?_ | refine callBP (by with_reducible assumption) ?_ | refine callD rfl ?_ | refine callBP (by (first | (with_reducible assumption) | (simp [isOne]; done) | ((try simp only [Bool.and_eq_true, decide_eq_true_eq, Nat.blt_eq, Nat.ble_eq, Nat.beq_eq_true_eq]); simp [isOne]; omega) | (simp [-List.getD_eq_getElem?_getD, isOne, *]; done) | (simp [-List.getD_eq_getElem?_getD, isOne, *]; omega) | omega | assumption)) ?_ | refine callBN (by (first | (simp [isOne]; done) | ((try simp only [Bool.and_eq_true, decide_eq_true_eq, Nat.blt_eq, Nat.ble_eq, Nat.beq_eq_true_eq]); simp [isOne]; omega) | (simp [-List.getD_eq_getElem?_getD, isOne, *]; done) | (simp [-List.getD_eq_getElem?_getD, isOne, *]; omega))) ?_ | refine callM rfl ?_ | refine callS ?_ | refine callB (fun h => ?_) (fun h => ?_) | refine notsplit ?_ | refine bcase_dt (by omega) ?_ | refine bcase_df (by omega) ?_ | refine dsplit (fun h => ?_) (fun h => ?_) | refine esplit (fun h => ?_) (fun h => ?_) | refine nsplit (fun h => ?_) (fun h => ?_) | refine bsplit (fun h => ?_) (fun h => ?_)) <;> conv => whnf))
  refine Or.inr (loop_on 0 (fun ((i, r) : Nat × ByteArray) => [(0, .string r), (3, .int .i64 (Lib.countByte (bs s) c)), (9, .slice (some ⟨0, 0, some (Lib.countByte (bs s) c + 1)⟩) (Lib.countByte (bs s) c + 1) 1), (10, .int .i64 (i))]) (fun ((i, r) : Nat × ByteArray) => [(0, .cells true true (Lib.countByte (bs s) c + 1) (.strs (((splitL (bs s) c).take i).map mk ++ List.replicate (Lib.countByte (bs s) c + 1 - i) .empty)))]) (fun ((i, r) : Nat × ByteArray) => Lib.countByte (bs s) c + 1 - i) (fun ((i, r) : Nat × ByteArray) => Part (bs s) c i r) (0, s) (by first | exact Nat.le_refl _ | exact Nat.zero_le _ | decide) (by ((try conv => whnf) <;> repeat' (first | exact trivial | (with_reducible rfl) | exact (rfl : _ = true) | exact (rfl : (_ : Value) = _) | exact id | exact fun _ => rfl | ((refine And.intro ?_ ?_) <;> (try conv => whnf)) | exact Or.inl ⟨rfl, fun _ _ => rfl⟩ | ((refine Or.inr ?_) <;> (try conv => whnf)))) <;> (first | (first | exact Go.Eng.wrap_small (by omega) | (rw [Option.some.injEq]; omega) | (rw [Go.Eng.wrap_small (by omega)]; omega) | exact wrap_succ (by omega) | exact (wrap_succ (by omega)).symm | omega | (simp; done) | assumption | rfl) | (simp only [hM, Int.toNat_natCast, show y9.size = 1 from rfl, Nat.mul_one, List.take_zero, List.map_nil, List.nil_append, Nat.sub_zero]; done) | (rw [hM]; exact Go.Eng.wrap_small (by omega)) | (rw [hM, Go.Eng.wrap_small (by omega)]; omega) | (simp only [hM, Int.toNat_natCast, show y9.size = 1 from rfl, Nat.mul_one, List.take_zero, List.map_nil, List.nil_append, Nat.sub_zero]; rfl))) (by ((try conv => whnf) <;> repeat' (first | exact trivial | (with_reducible rfl) | exact (rfl : _ = true) | exact (rfl : (_ : Value) = _) | exact id | exact fun _ => rfl | ((refine And.intro ?_ ?_) <;> (try conv => whnf)) | exact Or.inl ⟨rfl, fun _ _ => rfl⟩ | ((refine Or.inr ?_) <;> (try conv => whnf)))) <;> (first | (first | exact Go.Eng.wrap_small (by omega) | (rw [Option.some.injEq]; omega) | (rw [Go.Eng.wrap_small (by omega)]; omega) | exact wrap_succ (by omega) | exact (wrap_succ (by omega)).symm | omega | (simp; done) | assumption | rfl) | (simp only [hM, Int.toNat_natCast, show y9.size = 1 from rfl, Nat.mul_one, List.take_zero, List.map_nil, List.nil_append, Nat.sub_zero]; done) | (rw [hM]; exact Go.Eng.wrap_small (by omega)) | (rw [hM, Go.Eng.wrap_small (by omega)]; omega) | (simp only [hM, Int.toNat_natCast, show y9.size = 1 from rfl, Nat.mul_one, List.take_zero, List.map_nil, List.nil_append, Nat.sub_zero]; rfl))) (Part.start s c) fun K' hK ⟨i, r⟩ hq => ?_)
  have hq : Part (bs s) c i r := hq
  have hrs := hq.size
  rw [bs_len] at hrs
  have hcnt := hq.count
  have hile := hq.le
  by_cases hi : i < Lib.countByte (bs s) c
  · obtain ⟨o, ho⟩ := idx_pos (l := bs r) (c := c) (by omega)
    have ho2 := (cut_hit ho).2
    rw [bs_len] at ho2
    obtain ⟨hn, hg⟩ := hq.hit ho hi
    have hI : Lib.indexByte (bs r) ((bs ({ data := #[c] } : ByteArray)).getD 0 0) = (o : Int) := ho
    have hlt : ¬ Lib.indexByte (bs r) ((bs ({ data := #[c] } : ByteArray)).getD 0 0) < 0 := by rw [hI]; omega
    have w0 : IntKind.i64.wrap (Lib.indexByte (bs r) ((bs ({ data := #[c] } : ByteArray)).getD 0 0) + 0) = (o : Int) := by rw [hI, Int.add_zero]; exact Go.Eng.wrap_small (by omega)
    have w1 : IntKind.i64.wrap (Lib.indexByte (bs r) ((bs ({ data := #[c] } : ByteArray)).getD 0 0) + (({ data := #[c] } : ByteArray).size : Int)) = ((o + 1 : Nat) : Int) := by rw [hI, hp1]; exact Go.Eng.wrap_small (x := (o : Int) + 1) (by omega)
    have wi : IntKind.i64.wrap ((i : Int) + 1) = ((i + 1 : Nat) : Int) := Go.Eng.wrap_small (x := (i : Int) + 1) (by omega)
    have hput := part_put (w := r.extract 0 o) hL (i := i) (by omega) (by rw [hg, bs_ext]; rfl)
    have k0 : (decide (0 ≤ IntKind.i64.wrap (Lib.indexByte (bs r) ((bs ({ data := #[c] } : ByteArray)).getD 0 0) + 0)) && decide (IntKind.i64.wrap (Lib.indexByte (bs r) ((bs ({ data := #[c] } : ByteArray)).getD 0 0) + 0) ≤ ((r.size : Nat) : Int))) = true := by
      rw [w0, Bool.and_eq_true, decide_eq_true_eq, decide_eq_true_eq]; omega
    have k1 : (decide (0 ≤ IntKind.i64.wrap (Lib.indexByte (bs r) ((bs ({ data := #[c] } : ByteArray)).getD 0 0) + (({ data := #[c] } : ByteArray).size : Int))) && decide (IntKind.i64.wrap (Lib.indexByte (bs r) ((bs ({ data := #[c] } : ByteArray)).getD 0 0) + (({ data := #[c] } : ByteArray).size : Int)) ≤ ((r.size : Nat) : Int))) = true := by
      rw [w1, Bool.and_eq_true, decide_eq_true_eq, decide_eq_true_eq]; omega
    clear hM
    repeat' (first | (with_reducible refine Step.mk ?_) | ((with_reducible refine a_cons ?_); conv => whnf) | (with_reducible refine k_reg ?_) | (with_reducible refine a_nil ?_) | (with_reducible refine k_seq ?_) | (with_reducible refine w_seq ?_) | (with_reducible refine w_reg ?_) | ((with_reducible refine c_cons ?_); conv => whnf) | (with_reducible refine c_nil ?_) | ((with_reducible refine w_cond ?_); conv => whnf) | (with_reducible refine w_block ?_) | (with_reducible refine k_blk ?_) | (with_reducible refine w_exit ?_) | (with_reducible refine w_ret ?_) | (with_reducible refine w_skip ?_) | (with_reducible refine k_seqe ?_) | (with_reducible refine k_seqr ?_) | (with_reducible refine k_blkr ?_) | (with_reducible refine k_rnde ?_) | (with_reducible refine k_rndr ?_) | (with_reducible refine k_ale ?_) | (with_reducible refine k_alr ?_) | ((with_reducible refine k_blke ?_); conv => whnf) | ((with_reducible refine k_rndn ?_); conv => whnf) | ((with_reducible refine k_aln ?_); conv => whnf) | ((with_reducible refine k_lam ?_); conv => whnf) | ((with_reducible refine w_loop ?_); conv => whnf) | (with_reducible refine w_aloop ?_) | ((with_reducible refine q_cons ?_); conv => whnf) | (with_reducible refine q_nil ?_) | ((with_reducible refine w_isd ?_); first | refine dg_drawn rfl ?_ | refine dg_quiet rfl ?_) | (with_reducible refine body_in (by kernel_rfl) (fun K' hK => ?_)) | (with_reducible refine kout (by assumption) ?_) | ((first | refine WholeK.whole ⟨by first | rfl | omega | (simp; done), by (first | rfl | omega | (simp; done) | (simp; omega) | (simp [*]; done) | (simp [*]; omega))⟩ ?_ | refine WholeK.part ?_ | refine FitK.mk (by first | omega | (simp only [size_one, size_nil]; omega) | (with_reducible assumption) | (simp only [size_app, size_one, size_nil, size_mk, size_ext, size_lit, List.length_append, List.length_cons, List.length_nil]; omega) | (simp only [hsz, size_app, size_one, size_nil, size_mk, size_ext, size_lit, List.length_append, List.length_cons, List.length_nil]; omega)) ?_ | refine chk_intro (by (first | (simp [isOne]; done) | ((try simp only [Bool.and_eq_true, decide_eq_true_eq, Nat.blt_eq, Nat.ble_eq, Nat.beq_eq_true_eq]); simp [isOne]; omega) | (simp [-List.getD_eq_getElem?_getD, isOne, *]; done) | (simp [-List.getD_eq_getElem?_getD, isOne, *]; omega))) ?_ | refine bcase_t (by with_reducible assumption) ?_ | refine bcase_f (by with_reducible assumption) ?_ | refine bcase_dt (by with_reducible assumption) ?_ | refine bcase_df (by with_reducible assumption) ?_ | refine bcase_t (by assumption) ?_ | refine bcase_f (by assumption) ?_ | refine bcase_dt (by assumption) ?_ | refine bcase_df (by assumption) ?_ | refine optK_if (by (first | (with_reducible assumption) | (simp [isOne]; done) | ((try simp only [Bool.and_eq_true, decide_eq_true_eq, Nat.blt_eq, Nat.ble_eq, Nat.beq_eq_true_eq]); simp [isOne]; omega) | (simp [-List.getD_eq_getElem?_getD, isOne, *]; done) | (simp [-List.getD_eq_getElem?_getD, isOne, *]; omega) | omega | assumption)) ?_ | refine callBP (by with_reducible assumption) ?_ | refine callD rfl ?_ | refine callBP (by (first | (with_reducible assumption) | (simp [isOne]; done) | ((try simp only [Bool.and_eq_true, decide_eq_true_eq, Nat.blt_eq, Nat.ble_eq, Nat.beq_eq_true_eq]); simp [isOne]; omega) | (simp [-List.getD_eq_getElem?_getD, isOne, *]; done) | (simp [-List.getD_eq_getElem?_getD, isOne, *]; omega) | omega | assumption)) ?_ | refine callBN (by (first | (simp [isOne]; done) | ((try simp only [Bool.and_eq_true, decide_eq_true_eq, Nat.blt_eq, Nat.ble_eq, Nat.beq_eq_true_eq]); simp [isOne]; omega) | (simp [-List.getD_eq_getElem?_getD, isOne, *]; done) | (simp [-List.getD_eq_getElem?_getD, isOne, *]; omega))) ?_ | refine callM rfl ?_ | refine callS ?_ | refine callB (fun h => ?_) (fun h => ?_) | refine notsplit ?_ | refine bcase_dt (by omega) ?_ | refine bcase_df (by omega) ?_ | refine dsplit (fun h => ?_) (fun h => ?_) | refine esplit (fun h => ?_) (fun h => ?_) | refine nsplit (fun h => ?_) (fun h => ?_) | refine bsplit (fun h => ?_) (fun h => ?_)) <;> conv => whnf))
    refine ⟨(i + 1, r.extract (o + 1) r.size), by (first | omega | (simp; omega) | (simp_all; omega)), hn, round_end [] rfl (by first | exact Nat.le_refl _ | exact Nat.zero_le _ | decide) (by ((try conv => whnf) <;> repeat' (first | exact trivial | (with_reducible rfl) | exact (rfl : _ = true) | exact (rfl : (_ : Value) = _) | exact id | exact fun _ => rfl | ((refine And.intro ?_ ?_) <;> (try conv => whnf)) | exact Or.inl ⟨rfl, fun _ _ => rfl⟩ | ((refine Or.inr ?_) <;> (try conv => whnf)))) <;> (first | (first | exact Go.Eng.wrap_small (by omega) | (rw [Option.some.injEq]; omega) | (rw [Go.Eng.wrap_small (by omega)]; omega) | exact wrap_succ (by omega) | exact (wrap_succ (by omega)).symm | omega | (simp; done) | assumption | rfl) | (rw [w1]; rfl) | exact wi | (simp only [w0, Int.toNat_natCast, show y9.size = 1 from rfl, Nat.mul_one, Nat.zero_add]; exact hput))) (by ((try conv => whnf) <;> repeat' (first | exact trivial | (with_reducible rfl) | exact (rfl : _ = true) | exact (rfl : (_ : Value) = _) | exact id | exact fun _ => rfl | ((refine And.intro ?_ ?_) <;> (try conv => whnf)) | exact Or.inl ⟨rfl, fun _ _ => rfl⟩ | ((refine Or.inr ?_) <;> (try conv => whnf)))) <;> (first | (first | exact Go.Eng.wrap_small (by omega) | (rw [Option.some.injEq]; omega) | (rw [Go.Eng.wrap_small (by omega)]; omega) | exact wrap_succ (by omega) | exact (wrap_succ (by omega)).symm | omega | (simp; done) | assumption | rfl) | (rw [w1]; rfl) | exact wi | (simp only [w0, Int.toNat_natCast, show y9.size = 1 from rfl, Nat.mul_one, Nat.zero_add]; exact hput)))⟩
  · have hi2 : i = Lib.countByte (bs s) c := by omega
    have wi : IntKind.i64.wrap ((i : Int) + 1) = ((i + 1 : Nat) : Int) := Go.Eng.wrap_small (x := (i : Int) + 1) (by omega)
    have hput := part_put (w := r) hL (i := i) (by omega) (hq.last hi2).symm
    have hput2 : (((splitL (bs s) c).take i).map mk ++ List.replicate (Lib.countByte (bs s) c + 1 - i) (.empty : ByteArray)).set i r = opq ((splitL (bs s) c).map mk) := by
      rw [hput, opq_eq, List.take_of_length_le (by omega), show Lib.countByte (bs s) c + 1 - (i + 1) = 0 by omega]; simp
    have hlen : (opq ((splitL (bs s) ((bs ({ data := #[c] } : ByteArray)).getD 0 0)).map mk)).length = Lib.countByte (bs s) c + 1 := by
      rw [opq_eq, List.length_map]; exact hL
    clear hM
    repeat' (first | (with_reducible refine Step.mk ?_) | ((with_reducible refine a_cons ?_); conv => whnf) | (with_reducible refine k_reg ?_) | (with_reducible refine a_nil ?_) | (with_reducible refine k_seq ?_) | (with_reducible refine w_seq ?_) | (with_reducible refine w_reg ?_) | ((with_reducible refine c_cons ?_); conv => whnf) | (with_reducible refine c_nil ?_) | ((with_reducible refine w_cond ?_); conv => whnf) | (with_reducible refine w_block ?_) | (with_reducible refine k_blk ?_) | (with_reducible refine w_exit ?_) | (with_reducible refine w_ret ?_) | (with_reducible refine w_skip ?_) | (with_reducible refine k_seqe ?_) | (with_reducible refine k_seqr ?_) | (with_reducible refine k_blkr ?_) | (with_reducible refine k_rnde ?_) | (with_reducible refine k_rndr ?_) | (with_reducible refine k_ale ?_) | (with_reducible refine k_alr ?_) | ((with_reducible refine k_blke ?_); conv => whnf) | ((with_reducible refine k_rndn ?_); conv => whnf) | ((with_reducible refine k_aln ?_); conv => whnf) | ((with_reducible refine k_lam ?_); conv => whnf) | ((with_reducible refine w_loop ?_); conv => whnf) | (with_reducible refine w_aloop ?_) | ((with_reducible refine q_cons ?_); conv => whnf) | (with_reducible refine q_nil ?_) | ((with_reducible refine w_isd ?_); first | refine dg_drawn rfl ?_ | refine dg_quiet rfl ?_) | (with_reducible refine body_in (by kernel_rfl) (fun K' hK => ?_)) | (with_reducible refine kout (by assumption) ?_) | ((first | refine WholeK.whole ⟨by first | rfl | omega | (simp; done), by (first | rfl | omega | (simp; done) | (simp; omega) | (simp [*]; done) | (simp [*]; omega))⟩ ?_ | refine WholeK.part ?_ | refine FitK.mk (by first | omega | (simp only [size_one, size_nil]; omega) | (with_reducible assumption) | (simp only [size_app, size_one, size_nil, size_mk, size_ext, size_lit, List.length_append, List.length_cons, List.length_nil]; omega) | (simp only [hsz, size_app, size_one, size_nil, size_mk, size_ext, size_lit, List.length_append, List.length_cons, List.length_nil]; omega)) ?_ | refine chk_intro (by (first | (simp [isOne]; done) | ((try simp only [Bool.and_eq_true, decide_eq_true_eq, Nat.blt_eq, Nat.ble_eq, Nat.beq_eq_true_eq]); simp [isOne]; omega) | (simp [-List.getD_eq_getElem?_getD, isOne, *]; done) | (simp [-List.getD_eq_getElem?_getD, isOne, *]; omega))) ?_ | refine bcase_t (by with_reducible assumption) ?_ | refine bcase_f (by with_reducible assumption) ?_ | refine bcase_dt (by with_reducible assumption) ?_ | refine bcase_df (by with_reducible assumption) ?_ | refine bcase_t (by assumption) ?_ | refine bcase_f (by assumption) ?_ | refine bcase_dt (by assumption) ?_ | refine bcase_df (by assumption) ?_ | refine optK_if (by (first | (with_reducible assumption) | (simp [isOne]; done) | ((try simp only [Bool.and_eq_true, decide_eq_true_eq, Nat.blt_eq, Nat.ble_eq, Nat.beq_eq_true_eq]); simp [isOne]; omega) | (simp [-List.getD_eq_getElem?_getD, isOne, *]; done) | (simp [-List.getD_eq_getElem?_getD, isOne, *]; omega) | omega | assumption)) ?_ | refine callBP (by with_reducible assumption) ?_ | refine callD rfl ?_ | refine callBP (by (first | (with_reducible assumption) | (simp [isOne]; done) | ((try simp only [Bool.and_eq_true, decide_eq_true_eq, Nat.blt_eq, Nat.ble_eq, Nat.beq_eq_true_eq]); simp [isOne]; omega) | (simp [-List.getD_eq_getElem?_getD, isOne, *]; done) | (simp [-List.getD_eq_getElem?_getD, isOne, *]; omega) | omega | assumption)) ?_ | refine callBN (by (first | (simp [isOne]; done) | ((try simp only [Bool.and_eq_true, decide_eq_true_eq, Nat.blt_eq, Nat.ble_eq, Nat.beq_eq_true_eq]); simp [isOne]; omega) | (simp [-List.getD_eq_getElem?_getD, isOne, *]; done) | (simp [-List.getD_eq_getElem?_getD, isOne, *]; omega))) ?_ | refine callM rfl ?_ | refine callS ?_ | refine callB (fun h => ?_) (fun h => ?_) | refine notsplit ?_ | refine bcase_dt (by omega) ?_ | refine bcase_df (by omega) ?_ | refine dsplit (fun h => ?_) (fun h => ?_) | refine esplit (fun h => ?_) (fun h => ?_) | refine nsplit (fun h => ?_) (fun h => ?_) | refine bsplit (fun h => ?_) (fun h => ?_)) <;> conv => whnf))
    (((try conv => whnf) <;> repeat' (first | exact trivial | (with_reducible rfl) | exact (rfl : _ = true) | exact (rfl : (_ : Value) = _) | exact id | exact fun _ => rfl | ((refine And.intro ?_ ?_) <;> (try conv => whnf)) | exact Or.inl ⟨rfl, fun _ _ => rfl⟩ | ((refine Or.inr ?_) <;> (try conv => whnf)))) <;> (try simp only [List.getElem_toArray, List.getElem_cons_zero, List.getElem_cons_succ, Int.toNat_natCast, Int.toNat_zero, Nat.zero_mul, Nat.zero_add, Nat.add_zero, Nat.mul_one, Nat.one_mul, List.drop_zero, getD_last', y1_s, y2_s, y3_s, y4_s, y5_s, y6_s, y7_s, y8_s, y9_s, y10_s, y11_s, y12_s, y13_s, y14_s, y15_s, y16_s, y17_s, y18_s, y19_s, y21_s, y22_s, y23_s, y24_s, y26_s, y27_s, y28_s, y29_s, y30_s, y31_s, y32_s, y33_s, y34_s, y35_s, y36_s, y37_s, y38_s, y39_s, y40_s, y41_s, y43_s, y44_s, y45_s, y46_s, y47_s, y48_s, y49_s, y50_s, y51_s, y52_s, y54_s, y56_s, y57_s, y58_s, y60_s, y61_s, y62_s, y63_s, y64_s, y65_s, y66_s, y67_s, y68_s, y69_s, y70_s, y71_s, y72_s, y73_s, y74_s, y76_s, y77_s, y78_s, y79_s, y80_s, y81_s, y82_s, y83_s, y84_s, y85_s, y86_s, y87_s, y88_s, y90_s, y92_s, y93_s, y94_s, y95_s, y96_s, y97_s, y98_s, y99_s, y100_s, y101_s, y102_s, y103_s, y104_s, y106_s, y107_s, y108_s, y109_s, y110_s, y112_s, y114_s, y115_s, y116_s, y117_s, y118_s, y119_s, y120_s, y121_s, y122_s, y123_s, y124_s, y125_s, y126_s, y130_s, y131_s, y133_s, y134_s, y135_s, y136_s, y137_s, y138_s, y139_s, y141_s, y142_s, y144_s, y145_s, y146_s, y147_s, y148_s, y149_s, y150_s, y151_s, y152_s, y154_s, y155_s, y157_s, y158_s, y159_s, y160_s, y161_s, y162_s, y163_s, y164_s, y165_s, y166_s, y170_s, y171_s, y172_s, y173_s, y174_s, y175_s, y176_s] at *) <;> ((first | (first | exact Go.Eng.wrap_small (by omega) | (rw [Option.some.injEq]; omega) | (rw [Go.Eng.wrap_small (by omega)]; omega) | exact wrap_succ (by omega) | exact (wrap_succ (by omega)).symm | omega | (simp; done) | assumption | rfl) | (simp only [Int.toNat_natCast, show y9.size = 1 from rfl, Nat.mul_one, Nat.zero_add]; exact hput2) | (rw [hlen, wi]; simp; omega) | (rw [hlen]; simp [wi, hi2]; done))))
noncomputable def e_genSplit : Ent Tryd.prog := .deep 91 genSplit_F ⟨_, Tryd.func91, rfl, by kernel_rfl⟩ genSplit_sound

noncomputable def e_strSplit : Ent Tryd.prog := .wide 72 (abody (env Tryd.f72.ntmps [e_genSplit] [] []) Tryd.f72) ⟨_, Tryd.func72, rfl, by kernel_rfl⟩ (wide_sound env_ok Tryd.func72 fun _ _ _ _ h => h)

end Go.Proofs.YtbhlncohfpempaaDoor
