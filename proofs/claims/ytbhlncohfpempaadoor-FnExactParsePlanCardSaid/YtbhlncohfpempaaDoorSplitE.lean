/- A text split at a byte: what the function computes. -/
import Derived.Test.YtbhlncohfpempaaDoorLibD
set_option linter.unusedSimpArgs false
set_option linter.unusedVariables false
set_option maxRecDepth 100000
set_option maxHeartbeats 4000000
namespace Go.Proofs.YtbhlncohfpempaaDoor
open Go Go.Eng
theorem split_last {b : UInt8} : ∀ {l : Bytes} {out : List Bytes} {cur : Bytes}, splitL l b = out ++ [cur] → ∃ p, l = p ++ cur
  | [], out, cur, h => by
    cases out with
    | nil => simp [splitL] at h; subst h; exact ⟨[], rfl⟩
    | cons x out => simp [splitL] at h
  | x :: l, out, cur, h => by
    unfold splitL at h
    split at h
    · cases out with
      | nil => simp at h; exact absurd h.2 (splitL_ne l b)
      | cons y out =>
        simp only [List.cons_append, List.cons.injEq] at h
        obtain ⟨p, hp⟩ := split_last h.2
        exact ⟨x :: p, by rw [hp]; rfl⟩
    · cases hs : splitL l b with
      | nil => exact absurd hs (splitL_ne l b)
      | cons q r =>
        rw [hs] at h
        simp only at h
        cases out with
        | nil =>
          simp only [List.nil_append, List.cons.injEq] at h
          obtain ⟨h1, h2⟩ := h
          subst h2
          obtain ⟨p, hp⟩ := split_last (l := l) (out := []) (cur := q) hs
          refine ⟨[], ?_⟩
          have hl : q = l := by
            have : ∀ (l : Bytes) (q : Bytes), splitL l b = [q] → q = l := by
              intro l
              induction l with
              | nil => intro q h; simp [splitL] at h; exact h
              | cons y l ih =>
                intro q h
                unfold splitL at h
                split at h
                · simp at h; exact absurd h.2 (splitL_ne l b)
                · cases hs : splitL l b with
                  | nil => exact absurd hs (splitL_ne l b)
                  | cons q' r' =>
                    rw [hs] at h
                    simp only [List.cons.injEq] at h
                    obtain ⟨h1, h2⟩ := h
                    subst h2
                    rw [← h1, ih q' hs]
            exact this l q hs
          rw [← h1, hl]; rfl
        | cons y out =>
          simp only [List.cons_append, List.cons.injEq] at h
          obtain ⟨h1, h2⟩ := h
          obtain ⟨p, hp⟩ := split_last (l := l) (out := q :: out) (cur := cur) (by rw [hs, h2]; rfl)
          exact ⟨x :: p, by rw [hp]; rfl⟩
theorem split_parts (l : Bytes) (b : UInt8) : splitL l b = (splitL l b).dropLast ++ [(splitL l b).getLastD []] := by
  have h := List.dropLast_concat_getLast (splitL_ne l b)
  rw [List.getLastD_eq_getLast?, List.getLast?_eq_some_getLast (splitL_ne l b)]
  exact h.symm
def spOut (l : Bytes) (b : UInt8) (i : Nat) : List ByteArray := ((splitL (l.take i) b).dropLast).map mk
def spFrom (l : Bytes) (b : UInt8) (i : Nat) : Nat := i - ((splitL (l.take i) b).getLastD []).length
theorem sp_last {l : Bytes} {b : UInt8} {i : Nat} (hi : i ≤ l.length) : spFrom l b i ≤ i ∧ (splitL (l.take i) b).getLastD [] = (l.take i).drop (spFrom l b i) := by
  obtain ⟨p, hp⟩ := split_last (split_parts (l.take i) b)
  unfold spFrom
  refine ⟨Nat.sub_le _ _, ?_⟩
  generalize (splitL (l.take i) b).getLastD [] = cur at hp
  have h1 := congrArg List.length hp
  rw [List.length_append, List.length_take, Nat.min_eq_left hi] at h1
  have h2 : i - cur.length = p.length := by omega
  rw [h2, hp]; simp
theorem sp_step {l : Bytes} {b : UInt8} {i : Nat} (hi : i < l.length) :
    (l.getD i 0 = b → spOut l b (i + 1) = spOut l b i ++ [mk ((l.take i).drop (spFrom l b i))] ∧ spFrom l b (i + 1) = i + 1) ∧
    (l.getD i 0 ≠ b → spOut l b (i + 1) = spOut l b i ∧ spFrom l b (i + 1) = spFrom l b i) := by
  have h1 := split_snoc (l.getD i 0) (split_parts (l.take i) b)
  have h2 := sp_last (b := b) (Nat.le_of_lt hi)
  rw [← take_succ_getD hi] at h1
  constructor
  · intro e
    rw [if_pos e] at h1
    refine ⟨?_, ?_⟩
    · unfold spOut; rw [h1, List.dropLast_concat, List.map_append, h2.2]; rfl
    · unfold spFrom; rw [h1]; simp
  · intro e
    rw [if_neg e] at h1
    refine ⟨?_, ?_⟩
    · unfold spOut; rw [h1, List.dropLast_concat]
    · unfold spFrom
      rw [h1]
      have h3 : ((splitL (l.take i) b).getLastD []).length ≤ i := by
        rw [h2.2, List.length_drop, List.length_take]; omega
      rw [List.getLastD_concat, List.length_append]
      simp only [List.length_cons, List.length_nil]
      omega
theorem sp_end (l : Bytes) (b : UInt8) : (splitL l b).map mk = spOut l b l.length ++ [mk (l.drop (spFrom l b l.length))] := by
  have h2 := (sp_last (l := l) (b := b) (Nat.le_refl _)).2
  rw [List.take_length] at h2
  have h := split_parts l b
  unfold spOut
  rw [List.take_length]
  conv => lhs; rw [h]
  rw [List.map_append, h2]; rfl
theorem sp_zero (l : Bytes) (b : UInt8) : spOut l b 0 = [] ∧ spFrom l b 0 = 0 := by simp [spOut, spFrom, splitL]
theorem split_len (b : UInt8) : ∀ l : Bytes, (splitL l b).length ≤ l.length + 1
  | [] => by simp [splitL]
  | x :: l => by
    have := split_len b l
    unfold splitL
    split
    · simp; omega
    · split
      · simp
      · rename_i h; rw [h] at this; simp at this ⊢; omega
theorem sp_len {l : Bytes} {b : UInt8} {i : Nat} (hi : i ≤ l.length) : (spOut l b i).length ≤ i := by
  have := split_len b (l.take i)
  rw [List.length_take, Nat.min_eq_left hi] at this
  unfold spOut
  rw [List.length_map, List.length_dropLast]; omega
theorem u8_eq {b : Int} (h0 : 0 ≤ b) (h1 : b ≤ 255) (x : UInt8) : ((x.toNat : Int) = b) ↔ x = (UInt8.ofNat b.toNat) := by
  constructor
  · intro h
    have : b.toNat = x.toNat := by omega
    rw [this]; simp
  · intro h
    subst h
    have : b.toNat < 256 := by omega
    simp [Nat.mod_eq_of_lt this]; omega
noncomputable def l1Split_F : List DV → Option (List DV)
  | [.v (.string s), .v (.int .u8 b)] => if s.size ≤ 1048576 ∧ 0 ≤ b ∧ b ≤ 255 then some [.sl 1 (opq ((splitL (bs s) (UInt8.ofNat b.toNat)).map mk)).length (.strs (opq ((splitL (bs s) (UInt8.ofNat b.toNat)).map mk)))] else none
  | _ => none
theorem l1Split_sound : SoundW Tryd.prog 71 (deepSem l1Split_F) := by
  refine deep_sound (env_ok (N := Tryd.f71.ntmps) (l := []) (live := [(0, [0, 1, 5, 6, 7])]) (ord := [])) Tryd.func71 ?_
  intro ds rs h hg
  unfold l1Split_F at h
  split at h
  case h_2 => cases h
  rename_i s b
  split at h
  case isFalse => cases h
  rename_i hpre
  have hp := hpre
  clear hg
  all_goals cases h
  obtain ⟨hs, hb0, hb1⟩ := hp
  have hz := sp_zero (bs s) (UInt8.ofNat b.toNat)
  (refine abody_nb (nb' := 0) rfl ?_; (conv => whnf); refine body_in (by kernel_rfl) (fun K' hK => ?_))
  repeat' (first | (with_reducible refine Step.mk ?_) | ((with_reducible refine a_cons ?_); conv => whnf) | (with_reducible refine k_reg ?_) | (with_reducible refine a_nil ?_) | (with_reducible refine k_seq ?_) | (with_reducible refine w_seq ?_) | (with_reducible refine w_reg ?_) | ((with_reducible refine c_cons ?_); conv => whnf) | (with_reducible refine c_nil ?_) | ((with_reducible refine w_cond ?_); conv => whnf) | (with_reducible refine w_block ?_) | (with_reducible refine k_blk ?_) | (with_reducible refine w_exit ?_) | (with_reducible refine w_ret ?_) | (with_reducible refine w_skip ?_) | (with_reducible refine k_seqe ?_) | (with_reducible refine k_seqr ?_) | (with_reducible refine k_blkr ?_) | (with_reducible refine k_rnde ?_) | (with_reducible refine k_rndr ?_) | (with_reducible refine k_ale ?_) | (with_reducible refine k_alr ?_) | ((with_reducible refine k_blke ?_); conv => whnf) | ((with_reducible refine k_rndn ?_); conv => whnf) | ((with_reducible refine k_aln ?_); conv => whnf) | ((with_reducible refine k_lam ?_); conv => whnf) | ((with_reducible refine w_loop ?_); conv => whnf) | (with_reducible refine w_aloop ?_) | ((with_reducible refine q_cons ?_); conv => whnf) | (with_reducible refine q_nil ?_) | ((with_reducible refine w_isd ?_); first | refine dg_drawn rfl ?_ | refine dg_quiet rfl ?_) | (with_reducible refine body_in (by kernel_rfl) (fun K' hK => ?_)) | (with_reducible refine kout (by assumption) ?_) | ((first | refine WholeK.whole ⟨by first | rfl | omega | (simp; done), by (first | rfl | omega | (simp; done) | (simp; omega) | (simp [*]; done) | (simp [*]; omega))⟩ ?_ | refine WholeK.part ?_ | refine FitK.mk (by first | omega | (simp only [size_one, size_nil]; omega) | (with_reducible assumption) | (simp only [size_app, size_one, size_nil, size_mk, size_ext, size_lit, List.length_append, List.length_cons, List.length_nil]; omega) | (simp only [hsz, size_app, size_one, size_nil, size_mk, size_ext, size_lit, List.length_append, List.length_cons, List.length_nil]; omega)) ?_ | refine chk_intro (by (first | (simp [isOne]; done) | ((try simp only [Bool.and_eq_true, decide_eq_true_eq, Nat.blt_eq, Nat.ble_eq, Nat.beq_eq_true_eq]); simp [isOne]; omega) | (simp [-List.getD_eq_getElem?_getD, isOne, *]; done) | (simp [-List.getD_eq_getElem?_getD, isOne, *]; omega))) ?_ | refine bcase_t (by with_reducible assumption) ?_ | refine bcase_f (by with_reducible assumption) ?_ | refine bcase_dt (by with_reducible assumption) ?_ | refine bcase_df (by with_reducible assumption) ?_ | refine bcase_t (by assumption) ?_ | refine bcase_f (by assumption) ?_ | refine bcase_dt (by assumption) ?_ | refine bcase_df (by assumption) ?_ | refine optK_if (by (first | (with_reducible assumption) | (simp [isOne]; done) | ((try simp only [Bool.and_eq_true, decide_eq_true_eq, Nat.blt_eq, Nat.ble_eq, Nat.beq_eq_true_eq]); simp [isOne]; omega) | (simp [-List.getD_eq_getElem?_getD, isOne, *]; done) | (simp [-List.getD_eq_getElem?_getD, isOne, *]; omega) | omega | assumption)) ?_ | refine callBP (by with_reducible assumption) ?_ | refine callD rfl ?_ | refine callBP (by (first | (with_reducible assumption) | (simp [isOne]; done) | ((try simp only [Bool.and_eq_true, decide_eq_true_eq, Nat.blt_eq, Nat.ble_eq, Nat.beq_eq_true_eq]); simp [isOne]; omega) | (simp [-List.getD_eq_getElem?_getD, isOne, *]; done) | (simp [-List.getD_eq_getElem?_getD, isOne, *]; omega) | omega | assumption)) ?_ | refine callBN (by (first | (simp [isOne]; done) | ((try simp only [Bool.and_eq_true, decide_eq_true_eq, Nat.blt_eq, Nat.ble_eq, Nat.beq_eq_true_eq]); simp [isOne]; omega) | (simp [-List.getD_eq_getElem?_getD, isOne, *]; done) | (simp [-List.getD_eq_getElem?_getD, isOne, *]; omega))) ?_ | refine callM rfl ?_ | refine callS ?_ | refine callB (fun h => ?_) (fun h => ?_) | refine notsplit ?_ | refine bcase_dt (by omega) ?_ | refine bcase_df (by omega) ?_ | refine dsplit (fun h => ?_) (fun h => ?_) | refine esplit (fun h => ?_) (fun h => ?_) | refine nsplit (fun h => ?_) (fun h => ?_) | refine bsplit (fun h => ?_) (fun h => ?_)) <;> conv => whnf))
  refine Or.inr (loop_on 0 (fun (i : Nat) => [(0, .string s), (1, .int .u8 b), (5, .slice (some ⟨0, 0, some (spOut (bs s) (UInt8.ofNat b.toNat) i).length⟩) (spOut (bs s) (UInt8.ofNat b.toNat) i).length 1), (6, .int .i64 (spFrom (bs s) (UInt8.ofNat b.toNat) i)), (7, .int .i64 (i))]) (fun (i : Nat) => [(0, .cells true true (spOut (bs s) (UInt8.ofNat b.toNat) i).length (.strs (spOut (bs s) (UInt8.ofNat b.toNat) i)))]) (fun (i : Nat) => s.size - i) (fun (i : Nat) => i ≤ s.size) 0 (by first | exact Nat.le_refl _ | exact Nat.zero_le _ | decide) (by ((try conv => whnf) <;> repeat' (first | exact trivial | (with_reducible rfl) | exact (rfl : _ = true) | exact (rfl : (_ : Value) = _) | exact id | exact fun _ => rfl | ((refine And.intro ?_ ?_) <;> (try conv => whnf)) | exact Or.inl ⟨rfl, fun _ _ => rfl⟩ | ((refine Or.inr ?_) <;> (try conv => whnf)))) <;> (first | (first | exact Go.Eng.wrap_small (by omega) | (rw [Option.some.injEq]; omega) | (rw [Go.Eng.wrap_small (by omega)]; omega) | exact wrap_succ (by omega) | exact (wrap_succ (by omega)).symm | omega | (simp; done) | assumption | rfl) | (simp [hz]; done))) (by ((try conv => whnf) <;> repeat' (first | exact trivial | (with_reducible rfl) | exact (rfl : _ = true) | exact (rfl : (_ : Value) = _) | exact id | exact fun _ => rfl | ((refine And.intro ?_ ?_) <;> (try conv => whnf)) | exact Or.inl ⟨rfl, fun _ _ => rfl⟩ | ((refine Or.inr ?_) <;> (try conv => whnf)))) <;> (first | (first | exact Go.Eng.wrap_small (by omega) | (rw [Option.some.injEq]; omega) | (rw [Go.Eng.wrap_small (by omega)]; omega) | exact wrap_succ (by omega) | exact (wrap_succ (by omega)).symm | omega | (simp; done) | assumption | rfl) | (simp [hz]; done))) (by omega) fun K' hK i hq => ?_)
  by_cases hi : i < s.size
  · have h1 := sp_step (l := bs s) (b := UInt8.ofNat b.toNat) hi
    have h2 := sp_last (l := bs s) (b := UInt8.ofNat b.toNat) hq
    have h3 := sp_len (l := bs s) (b := UInt8.ofNat b.toNat) hq
    have hex : s.extract (spFrom (bs s) (UInt8.ofNat b.toNat) i) i = mk (((bs s).take i).drop (spFrom (bs s) (UInt8.ofNat b.toNat) i)) := str_ext (by rw [bs_ext, bs_mk])
    by_cases hx : (bs s).getD i 0 = UInt8.ofNat b.toNat
    · have hx' : ((s.data.toList.getD i 0).toNat : Int) = b := (u8_eq hb0 hb1 _).2 hx
      obtain ⟨e1, e2⟩ := h1.1 hx
      clear h1 hx
      have h4 := h2.1
      clear h2
      repeat' (first | (with_reducible refine Step.mk ?_) | ((with_reducible refine a_cons ?_); conv => whnf) | (with_reducible refine k_reg ?_) | (with_reducible refine a_nil ?_) | (with_reducible refine k_seq ?_) | (with_reducible refine w_seq ?_) | (with_reducible refine w_reg ?_) | ((with_reducible refine c_cons ?_); conv => whnf) | (with_reducible refine c_nil ?_) | ((with_reducible refine w_cond ?_); conv => whnf) | (with_reducible refine w_block ?_) | (with_reducible refine k_blk ?_) | (with_reducible refine w_exit ?_) | (with_reducible refine w_ret ?_) | (with_reducible refine w_skip ?_) | (with_reducible refine k_seqe ?_) | (with_reducible refine k_seqr ?_) | (with_reducible refine k_blkr ?_) | (with_reducible refine k_rnde ?_) | (with_reducible refine k_rndr ?_) | (with_reducible refine k_ale ?_) | (with_reducible refine k_alr ?_) | ((with_reducible refine k_blke ?_); conv => whnf) | ((with_reducible refine k_rndn ?_); conv => whnf) | ((with_reducible refine k_aln ?_); conv => whnf) | ((with_reducible refine k_lam ?_); conv => whnf) | ((with_reducible refine w_loop ?_); conv => whnf) | (with_reducible refine w_aloop ?_) | ((with_reducible refine q_cons ?_); conv => whnf) | (with_reducible refine q_nil ?_) | ((with_reducible refine w_isd ?_); first | refine dg_drawn rfl ?_ | refine dg_quiet rfl ?_) | (with_reducible refine body_in (by kernel_rfl) (fun K' hK => ?_)) | (with_reducible refine kout (by assumption) ?_) | ((first | refine WholeK.whole ⟨by first | rfl | omega | (simp; done), by (first | rfl | omega | (simp; done) | (simp; omega) | (simp [*]; done) | (simp [*]; omega))⟩ ?_ | refine WholeK.part ?_ | refine FitK.mk (by first | omega | (simp only [size_one, size_nil]; omega) | (with_reducible assumption) | (simp only [size_app, size_one, size_nil, size_mk, size_ext, size_lit, List.length_append, List.length_cons, List.length_nil]; omega) | (simp only [hsz, size_app, size_one, size_nil, size_mk, size_ext, size_lit, List.length_append, List.length_cons, List.length_nil]; omega)) ?_ | refine chk_intro (by (first | (simp [isOne]; done) | ((try simp only [Bool.and_eq_true, decide_eq_true_eq, Nat.blt_eq, Nat.ble_eq, Nat.beq_eq_true_eq]); simp [isOne]; omega) | (simp [-List.getD_eq_getElem?_getD, isOne, *]; done) | (simp [-List.getD_eq_getElem?_getD, isOne, *]; omega))) ?_ | refine bcase_t (by with_reducible assumption) ?_ | refine bcase_f (by with_reducible assumption) ?_ | refine bcase_dt (by with_reducible assumption) ?_ | refine bcase_df (by with_reducible assumption) ?_ | refine bcase_t (by assumption) ?_ | refine bcase_f (by assumption) ?_ | refine bcase_dt (by assumption) ?_ | refine bcase_df (by assumption) ?_ | refine optK_if (by (first | (with_reducible assumption) | (simp [isOne]; done) | ((try simp only [Bool.and_eq_true, decide_eq_true_eq, Nat.blt_eq, Nat.ble_eq, Nat.beq_eq_true_eq]); simp [isOne]; omega) | (simp [-List.getD_eq_getElem?_getD, isOne, *]; done) | (simp [-List.getD_eq_getElem?_getD, isOne, *]; omega) | omega | assumption)) ?_ | refine callBP (by with_reducible assumption) ?_ | refine callD rfl ?_ | refine callBP (by (first | (with_reducible assumption) | (simp [isOne]; done) | ((try simp only [Bool.and_eq_true, decide_eq_true_eq, Nat.blt_eq, Nat.ble_eq, Nat.beq_eq_true_eq]); simp [isOne]; omega) | (simp [-List.getD_eq_getElem?_getD, isOne, *]; done) | (simp [-List.getD_eq_getElem?_getD, isOne, *]; omega) | omega | assumption)) ?_ | refine callBN (by (first | (simp [isOne]; done) | ((try simp only [Bool.and_eq_true, decide_eq_true_eq, Nat.blt_eq, Nat.ble_eq, Nat.beq_eq_true_eq]); simp [isOne]; omega) | (simp [-List.getD_eq_getElem?_getD, isOne, *]; done) | (simp [-List.getD_eq_getElem?_getD, isOne, *]; omega))) ?_ | refine callM rfl ?_ | refine callS ?_ | refine callB (fun h => ?_) (fun h => ?_) | refine notsplit ?_ | refine bcase_dt (by omega) ?_ | refine bcase_df (by omega) ?_ | refine dsplit (fun h => ?_) (fun h => ?_) | refine esplit (fun h => ?_) (fun h => ?_) | refine nsplit (fun h => ?_) (fun h => ?_) | refine bsplit (fun h => ?_) (fun h => ?_)) <;> conv => whnf))
      refine ⟨i + 1, by (first | omega | (simp; omega) | (simp_all; omega)), by omega, round_end [] rfl (by first | exact Nat.le_refl _ | exact Nat.zero_le _ | decide) (by ((try conv => whnf) <;> repeat' (first | exact trivial | (with_reducible rfl) | exact (rfl : _ = true) | exact (rfl : (_ : Value) = _) | exact id | exact fun _ => rfl | ((refine And.intro ?_ ?_) <;> (try conv => whnf)) | exact Or.inl ⟨rfl, fun _ _ => rfl⟩ | ((refine Or.inr ?_) <;> (try conv => whnf)))) <;> (first | (first | exact Go.Eng.wrap_small (by omega) | (rw [Option.some.injEq]; omega) | (rw [Go.Eng.wrap_small (by omega)]; omega) | exact wrap_succ (by omega) | exact (wrap_succ (by omega)).symm | omega | (simp; done) | assumption | rfl) | (rw [e2]; omega) | (rw [e1]; simp; done) | (rw [e1]; simp [hex]; done))) (by ((try conv => whnf) <;> repeat' (first | exact trivial | (with_reducible rfl) | exact (rfl : _ = true) | exact (rfl : (_ : Value) = _) | exact id | exact fun _ => rfl | ((refine And.intro ?_ ?_) <;> (try conv => whnf)) | exact Or.inl ⟨rfl, fun _ _ => rfl⟩ | ((refine Or.inr ?_) <;> (try conv => whnf)))) <;> (first | (first | exact Go.Eng.wrap_small (by omega) | (rw [Option.some.injEq]; omega) | (rw [Go.Eng.wrap_small (by omega)]; omega) | exact wrap_succ (by omega) | exact (wrap_succ (by omega)).symm | omega | (simp; done) | assumption | rfl) | (rw [e2]; omega) | (rw [e1]; simp; done) | (rw [e1]; simp [hex]; done)))⟩
    · have hx' : ¬ ((s.data.toList.getD i 0).toNat : Int) = b := fun h => hx ((u8_eq hb0 hb1 _).1 h)
      obtain ⟨e1, e2⟩ := h1.2 hx
      clear h1
      repeat' (first | (with_reducible refine Step.mk ?_) | ((with_reducible refine a_cons ?_); conv => whnf) | (with_reducible refine k_reg ?_) | (with_reducible refine a_nil ?_) | (with_reducible refine k_seq ?_) | (with_reducible refine w_seq ?_) | (with_reducible refine w_reg ?_) | ((with_reducible refine c_cons ?_); conv => whnf) | (with_reducible refine c_nil ?_) | ((with_reducible refine w_cond ?_); conv => whnf) | (with_reducible refine w_block ?_) | (with_reducible refine k_blk ?_) | (with_reducible refine w_exit ?_) | (with_reducible refine w_ret ?_) | (with_reducible refine w_skip ?_) | (with_reducible refine k_seqe ?_) | (with_reducible refine k_seqr ?_) | (with_reducible refine k_blkr ?_) | (with_reducible refine k_rnde ?_) | (with_reducible refine k_rndr ?_) | (with_reducible refine k_ale ?_) | (with_reducible refine k_alr ?_) | ((with_reducible refine k_blke ?_); conv => whnf) | ((with_reducible refine k_rndn ?_); conv => whnf) | ((with_reducible refine k_aln ?_); conv => whnf) | ((with_reducible refine k_lam ?_); conv => whnf) | ((with_reducible refine w_loop ?_); conv => whnf) | (with_reducible refine w_aloop ?_) | ((with_reducible refine q_cons ?_); conv => whnf) | (with_reducible refine q_nil ?_) | ((with_reducible refine w_isd ?_); first | refine dg_drawn rfl ?_ | refine dg_quiet rfl ?_) | (with_reducible refine body_in (by kernel_rfl) (fun K' hK => ?_)) | (with_reducible refine kout (by assumption) ?_) | ((first | refine WholeK.whole ⟨by first | rfl | omega | (simp; done), by (first | rfl | omega | (simp; done) | (simp; omega) | (simp [*]; done) | (simp [*]; omega))⟩ ?_ | refine WholeK.part ?_ | refine FitK.mk (by first | omega | (simp only [size_one, size_nil]; omega) | (with_reducible assumption) | (simp only [size_app, size_one, size_nil, size_mk, size_ext, size_lit, List.length_append, List.length_cons, List.length_nil]; omega) | (simp only [hsz, size_app, size_one, size_nil, size_mk, size_ext, size_lit, List.length_append, List.length_cons, List.length_nil]; omega)) ?_ | refine chk_intro (by (first | (simp [isOne]; done) | ((try simp only [Bool.and_eq_true, decide_eq_true_eq, Nat.blt_eq, Nat.ble_eq, Nat.beq_eq_true_eq]); simp [isOne]; omega) | (simp [-List.getD_eq_getElem?_getD, isOne, *]; done) | (simp [-List.getD_eq_getElem?_getD, isOne, *]; omega))) ?_ | refine bcase_t (by with_reducible assumption) ?_ | refine bcase_f (by with_reducible assumption) ?_ | refine bcase_dt (by with_reducible assumption) ?_ | refine bcase_df (by with_reducible assumption) ?_ | refine bcase_t (by assumption) ?_ | refine bcase_f (by assumption) ?_ | refine bcase_dt (by assumption) ?_ | refine bcase_df (by assumption) ?_ | refine optK_if (by (first | (with_reducible assumption) | (simp [isOne]; done) | ((try simp only [Bool.and_eq_true, decide_eq_true_eq, Nat.blt_eq, Nat.ble_eq, Nat.beq_eq_true_eq]); simp [isOne]; omega) | (simp [-List.getD_eq_getElem?_getD, isOne, *]; done) | (simp [-List.getD_eq_getElem?_getD, isOne, *]; omega) | omega | assumption)) ?_ | refine callBP (by with_reducible assumption) ?_ | refine callD rfl ?_ | refine callBP (by (first | (with_reducible assumption) | (simp [isOne]; done) | ((try simp only [Bool.and_eq_true, decide_eq_true_eq, Nat.blt_eq, Nat.ble_eq, Nat.beq_eq_true_eq]); simp [isOne]; omega) | (simp [-List.getD_eq_getElem?_getD, isOne, *]; done) | (simp [-List.getD_eq_getElem?_getD, isOne, *]; omega) | omega | assumption)) ?_ | refine callBN (by (first | (simp [isOne]; done) | ((try simp only [Bool.and_eq_true, decide_eq_true_eq, Nat.blt_eq, Nat.ble_eq, Nat.beq_eq_true_eq]); simp [isOne]; omega) | (simp [-List.getD_eq_getElem?_getD, isOne, *]; done) | (simp [-List.getD_eq_getElem?_getD, isOne, *]; omega))) ?_ | refine callM rfl ?_ | refine callS ?_ | refine callB (fun h => ?_) (fun h => ?_) | refine notsplit ?_ | refine bcase_dt (by omega) ?_ | refine bcase_df (by omega) ?_ | refine dsplit (fun h => ?_) (fun h => ?_) | refine esplit (fun h => ?_) (fun h => ?_) | refine nsplit (fun h => ?_) (fun h => ?_) | refine bsplit (fun h => ?_) (fun h => ?_)) <;> conv => whnf))
      refine ⟨i + 1, by (first | omega | (simp; omega) | (simp_all; omega)), by omega, round_end [] rfl (by first | exact Nat.le_refl _ | exact Nat.zero_le _ | decide) (by ((try conv => whnf) <;> repeat' (first | exact trivial | (with_reducible rfl) | exact (rfl : _ = true) | exact (rfl : (_ : Value) = _) | exact id | exact fun _ => rfl | ((refine And.intro ?_ ?_) <;> (try conv => whnf)) | exact Or.inl ⟨rfl, fun _ _ => rfl⟩ | ((refine Or.inr ?_) <;> (try conv => whnf)))) <;> (first | (first | exact Go.Eng.wrap_small (by omega) | (rw [Option.some.injEq]; omega) | (rw [Go.Eng.wrap_small (by omega)]; omega) | exact wrap_succ (by omega) | exact (wrap_succ (by omega)).symm | omega | (simp; done) | assumption | rfl) | (rw [e2]; done) | (rw [e1]; done))) (by ((try conv => whnf) <;> repeat' (first | exact trivial | (with_reducible rfl) | exact (rfl : _ = true) | exact (rfl : (_ : Value) = _) | exact id | exact fun _ => rfl | ((refine And.intro ?_ ?_) <;> (try conv => whnf)) | exact Or.inl ⟨rfl, fun _ _ => rfl⟩ | ((refine Or.inr ?_) <;> (try conv => whnf)))) <;> (first | (first | exact Go.Eng.wrap_small (by omega) | (rw [Option.some.injEq]; omega) | (rw [Go.Eng.wrap_small (by omega)]; omega) | exact wrap_succ (by omega) | exact (wrap_succ (by omega)).symm | omega | (simp; done) | assumption | rfl) | (rw [e2]; done) | (rw [e1]; done)))⟩
  · obtain rfl : i = s.size := by omega
    have h3 := sp_len (l := bs s) (b := UInt8.ofNat b.toNat) hq
    have h2 := (sp_last (l := bs s) (b := UInt8.ofNat b.toNat) hq).1
    have h5 := sp_end (bs s) (UInt8.ofNat b.toNat)
    have hex : s.extract (spFrom (bs s) (UInt8.ofNat b.toNat) s.size) s.size = mk ((bs s).drop (spFrom (bs s) (UInt8.ofNat b.toNat) s.size)) := str_ext (by rw [bs_ext, bs_mk, bs_take])
    rw [bs_len] at h5
    repeat' (first | (with_reducible refine Step.mk ?_) | ((with_reducible refine a_cons ?_); conv => whnf) | (with_reducible refine k_reg ?_) | (with_reducible refine a_nil ?_) | (with_reducible refine k_seq ?_) | (with_reducible refine w_seq ?_) | (with_reducible refine w_reg ?_) | ((with_reducible refine c_cons ?_); conv => whnf) | (with_reducible refine c_nil ?_) | ((with_reducible refine w_cond ?_); conv => whnf) | (with_reducible refine w_block ?_) | (with_reducible refine k_blk ?_) | (with_reducible refine w_exit ?_) | (with_reducible refine w_ret ?_) | (with_reducible refine w_skip ?_) | (with_reducible refine k_seqe ?_) | (with_reducible refine k_seqr ?_) | (with_reducible refine k_blkr ?_) | (with_reducible refine k_rnde ?_) | (with_reducible refine k_rndr ?_) | (with_reducible refine k_ale ?_) | (with_reducible refine k_alr ?_) | ((with_reducible refine k_blke ?_); conv => whnf) | ((with_reducible refine k_rndn ?_); conv => whnf) | ((with_reducible refine k_aln ?_); conv => whnf) | ((with_reducible refine k_lam ?_); conv => whnf) | ((with_reducible refine w_loop ?_); conv => whnf) | (with_reducible refine w_aloop ?_) | ((with_reducible refine q_cons ?_); conv => whnf) | (with_reducible refine q_nil ?_) | ((with_reducible refine w_isd ?_); first | refine dg_drawn rfl ?_ | refine dg_quiet rfl ?_) | (with_reducible refine body_in (by kernel_rfl) (fun K' hK => ?_)) | (with_reducible refine kout (by assumption) ?_) | ((first | refine WholeK.whole ⟨by first | rfl | omega | (simp; done), by (first | rfl | omega | (simp; done) | (simp; omega) | (simp [*]; done) | (simp [*]; omega))⟩ ?_ | refine WholeK.part ?_ | refine FitK.mk (by first | omega | (simp only [size_one, size_nil]; omega) | (with_reducible assumption) | (simp only [size_app, size_one, size_nil, size_mk, size_ext, size_lit, List.length_append, List.length_cons, List.length_nil]; omega) | (simp only [hsz, size_app, size_one, size_nil, size_mk, size_ext, size_lit, List.length_append, List.length_cons, List.length_nil]; omega)) ?_ | refine chk_intro (by (first | (simp [isOne]; done) | ((try simp only [Bool.and_eq_true, decide_eq_true_eq, Nat.blt_eq, Nat.ble_eq, Nat.beq_eq_true_eq]); simp [isOne]; omega) | (simp [-List.getD_eq_getElem?_getD, isOne, *]; done) | (simp [-List.getD_eq_getElem?_getD, isOne, *]; omega))) ?_ | refine bcase_t (by with_reducible assumption) ?_ | refine bcase_f (by with_reducible assumption) ?_ | refine bcase_dt (by with_reducible assumption) ?_ | refine bcase_df (by with_reducible assumption) ?_ | refine bcase_t (by assumption) ?_ | refine bcase_f (by assumption) ?_ | refine bcase_dt (by assumption) ?_ | refine bcase_df (by assumption) ?_ | refine optK_if (by (first | (with_reducible assumption) | (simp [isOne]; done) | ((try simp only [Bool.and_eq_true, decide_eq_true_eq, Nat.blt_eq, Nat.ble_eq, Nat.beq_eq_true_eq]); simp [isOne]; omega) | (simp [-List.getD_eq_getElem?_getD, isOne, *]; done) | (simp [-List.getD_eq_getElem?_getD, isOne, *]; omega) | omega | assumption)) ?_ | refine callBP (by with_reducible assumption) ?_ | refine callD rfl ?_ | refine callBP (by (first | (with_reducible assumption) | (simp [isOne]; done) | ((try simp only [Bool.and_eq_true, decide_eq_true_eq, Nat.blt_eq, Nat.ble_eq, Nat.beq_eq_true_eq]); simp [isOne]; omega) | (simp [-List.getD_eq_getElem?_getD, isOne, *]; done) | (simp [-List.getD_eq_getElem?_getD, isOne, *]; omega) | omega | assumption)) ?_ | refine callBN (by (first | (simp [isOne]; done) | ((try simp only [Bool.and_eq_true, decide_eq_true_eq, Nat.blt_eq, Nat.ble_eq, Nat.beq_eq_true_eq]); simp [isOne]; omega) | (simp [-List.getD_eq_getElem?_getD, isOne, *]; done) | (simp [-List.getD_eq_getElem?_getD, isOne, *]; omega))) ?_ | refine callM rfl ?_ | refine callS ?_ | refine callB (fun h => ?_) (fun h => ?_) | refine notsplit ?_ | refine bcase_dt (by omega) ?_ | refine bcase_df (by omega) ?_ | refine dsplit (fun h => ?_) (fun h => ?_) | refine esplit (fun h => ?_) (fun h => ?_) | refine nsplit (fun h => ?_) (fun h => ?_) | refine bsplit (fun h => ?_) (fun h => ?_)) <;> conv => whnf))
    (((try conv => whnf) <;> repeat' (first | exact trivial | (with_reducible rfl) | exact (rfl : _ = true) | exact (rfl : (_ : Value) = _) | exact id | exact fun _ => rfl | ((refine And.intro ?_ ?_) <;> (try conv => whnf)) | exact Or.inl ⟨rfl, fun _ _ => rfl⟩ | ((refine Or.inr ?_) <;> (try conv => whnf)))) <;> (try simp only [List.getElem_toArray, List.getElem_cons_zero, List.getElem_cons_succ, Int.toNat_natCast, Int.toNat_zero, Nat.zero_mul, Nat.zero_add, Nat.add_zero, Nat.mul_one, Nat.one_mul, List.drop_zero, getD_last', y1_s, y2_s, y3_s, y4_s, y5_s, y6_s, y7_s, y8_s, y9_s, y10_s, y11_s, y12_s, y13_s, y14_s, y15_s, y16_s, y17_s, y18_s, y19_s, y21_s, y22_s, y23_s, y24_s, y26_s, y27_s, y28_s, y29_s, y30_s, y31_s, y32_s, y33_s, y34_s, y35_s, y36_s, y37_s, y38_s, y39_s, y40_s, y41_s, y43_s, y44_s, y45_s, y46_s, y47_s, y48_s, y49_s, y50_s, y51_s, y52_s, y54_s, y56_s, y57_s, y58_s, y60_s, y61_s, y62_s, y63_s, y64_s, y65_s, y66_s, y67_s, y68_s, y69_s, y70_s, y71_s, y72_s, y73_s, y74_s, y76_s, y77_s, y78_s, y79_s, y80_s, y81_s, y82_s, y83_s, y84_s, y85_s, y86_s, y87_s, y88_s, y90_s, y92_s, y93_s, y94_s, y95_s, y96_s, y97_s, y98_s, y99_s, y100_s, y101_s, y102_s, y103_s, y104_s, y106_s, y107_s, y108_s, y109_s, y110_s, y112_s, y114_s, y115_s, y116_s, y117_s, y118_s, y119_s, y120_s, y121_s, y122_s, y123_s, y124_s, y125_s, y126_s, y130_s, y131_s, y133_s, y134_s, y135_s, y136_s, y137_s, y138_s, y139_s, y141_s, y142_s, y144_s, y145_s, y146_s, y147_s, y148_s, y149_s, y150_s, y151_s, y152_s, y154_s, y155_s, y157_s, y158_s, y159_s, y160_s, y161_s, y162_s, y163_s, y164_s, y165_s, y166_s, y170_s, y171_s, y172_s, y173_s, y174_s, y175_s, y176_s] at *) <;> ((first | (first | exact Go.Eng.wrap_small (by omega) | (rw [Option.some.injEq]; omega) | (rw [Go.Eng.wrap_small (by omega)]; omega) | exact wrap_succ (by omega) | exact (wrap_succ (by omega)).symm | omega | (simp; done) | assumption | rfl) | (rw [opq_eq, h5]; simp; done) | (rw [opq_eq, h5]; simp [hex]; done))))
noncomputable def e_l1Split : Ent Tryd.prog := .deep 71 l1Split_F ⟨_, Tryd.func71, rfl, by kernel_rfl⟩ l1Split_sound

end Go.Proofs.YtbhlncohfpempaaDoor
