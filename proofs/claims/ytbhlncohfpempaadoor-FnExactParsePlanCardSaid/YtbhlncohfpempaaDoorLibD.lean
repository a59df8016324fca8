/- The library's functions on texts: what each answers; no condition. -/
import Derived.Test.YtbhlncohfpempaaDoorChecked
import Derived.Shelf.Strconv.Itoa3
import Derived.Shelf.Strings.Count
import Derived.Shelf.Strings.OnBuilder
import Derived.Lib.Strings
import Derived.Lib.Slices
import Derived.Lib.Walk
import Derived.Lib.Bytealg
import Derived.Lib.IndexLaws
import Derived.Test.YtbhlncohfpempaaDoorStr
set_option linter.unusedSimpArgs false
set_option linter.unusedVariables false
set_option maxRecDepth 100000
set_option maxHeartbeats 4000000
namespace Go.Proofs.YtbhlncohfpempaaDoor
open Go Go.Eng
open Go.Lib Go.Shelf Go.Proofs Go.RowKit
def lItoa_ren : Go.Shelf.Ren := ⟨fun | 171 => 54 | 243 => 80 | 246 => 94 | 283 => 106 | 284 => 107 | 285 => 108 | 286 => 109 | 129 => 121 | 317 => 120 | 318 => 122 | 319 => 123 | 320 => 124 | 337 => 130 | 338 => 131 | n => n, fun | 3 => 3 | 9 => 9 | 2 => 2 | 4 => 4 | 171 => 136 | 0 => 0 | 53 => 137 | 37 => 94 | 5 => 5 | 173 => 140 | 212 => 149 | 51 => 150 | 20 => 20 | 213 => 151 | 46 => 147 | 232 => 163 | 233 => 164 | n => n, fun | 17 => 1 | 18 => 4 | 19 => 5 | n => n⟩
theorem lItoa : Go.Proofs.LaysM.n171 Tryd.prog lItoa_ren := {
  mixed := by kernel_rfl
  f129 := Tryd.func121.trans (congrArg some (by kernel_rfl))
  f171 := Tryd.func54.trans (congrArg some (by kernel_rfl))
  f243 := Tryd.func80.trans (congrArg some (by kernel_rfl))
  f246 := Tryd.func94.trans (congrArg some (by kernel_rfl))
  f283 := Tryd.func106.trans (congrArg some (by kernel_rfl))
  f284 := Tryd.func107.trans (congrArg some (by kernel_rfl))
  f285 := Tryd.func108.trans (congrArg some (by kernel_rfl))
  f286 := Tryd.func109.trans (congrArg some (by kernel_rfl))
  f317 := Tryd.func120.trans (congrArg some (by kernel_rfl))
  f318 := Tryd.func122.trans (congrArg some (by kernel_rfl))
  f319 := Tryd.func123.trans (congrArg some (by kernel_rfl))
  f320 := Tryd.func124.trans (congrArg some (by kernel_rfl))
  f337 := Tryd.func130.trans (congrArg some (by kernel_rfl))
  f338 := Tryd.func131.trans (congrArg some (by kernel_rfl))
  t0 := Tryd.underlying0
  a0 := Tryd.isAgg0
  z0 := Tryd.sizeOf0
  v0 := Tryd.zeroValue0
  t2 := Tryd.underlying2
  a2 := Tryd.isAgg2
  z2 := Tryd.sizeOf2
  v2 := Tryd.zeroValue2
  t3 := Tryd.underlying3
  a3 := Tryd.isAgg3
  z3 := Tryd.sizeOf3
  v3 := Tryd.zeroValue3
  t4 := Tryd.underlying4
  a4 := Tryd.isAgg4
  z4 := Tryd.sizeOf4
  v4 := Tryd.zeroValue4
  t5 := Tryd.underlying5
  a5 := Tryd.isAgg5
  z5 := Tryd.sizeOf5
  v5 := Tryd.zeroValue5
  t9 := Tryd.underlying9
  a9 := Tryd.isAgg9
  z9 := Tryd.sizeOf9
  v9 := Tryd.zeroValue9
  t20 := Tryd.underlying20
  a20 := Tryd.isAgg20
  z20 := Tryd.sizeOf20
  v20 := Tryd.zeroValue20
  t37 := Tryd.underlying94
  a37 := Tryd.isAgg94
  z37 := Tryd.sizeOf94
  v37 := Tryd.zeroValue94
  t46 := Tryd.underlying147
  a46 := Tryd.isAgg147
  z46 := Tryd.sizeOf147
  v46 := Tryd.zeroValue147
  t51 := Tryd.underlying150
  a51 := Tryd.isAgg150
  z51 := Tryd.sizeOf150
  v51 := Tryd.zeroValue150
  t53 := Tryd.underlying137
  a53 := Tryd.isAgg137
  z53 := Tryd.sizeOf137
  v53 := Tryd.zeroValue137
  t171 := Tryd.underlying136
  a171 := Tryd.isAgg136
  z171 := Tryd.sizeOf136
  v171 := Tryd.zeroValue136
  t173 := Tryd.underlying140
  a173 := Tryd.isAgg140
  z173 := Tryd.sizeOf140
  v173 := Tryd.zeroValue140
  t212 := Tryd.underlying149
  a212 := Tryd.isAgg149
  z212 := Tryd.sizeOf149
  v212 := Tryd.zeroValue149
  t213 := Tryd.underlying151
  a213 := Tryd.isAgg151
  z213 := Tryd.sizeOf151
  t232 := Tryd.underlying163
  a232 := Tryd.isAgg163
  z232 := Tryd.sizeOf163
  v232 := Tryd.zeroValue163
  t233 := Tryd.underlying164
  a233 := Tryd.isAgg164
  z233 := Tryd.sizeOf164
  v233 := Tryd.zeroValue164
  g17 := by kernel_rfl
  g18 := by kernel_rfl
  g19 := by kernel_rfl
  i0 := by kernel_rfl
  i2 := by kernel_rfl
  i3 := by kernel_rfl
  i4 := by kernel_rfl
  i5 := by kernel_rfl
  i9 := by kernel_rfl
  i20 := by kernel_rfl
  i37 := by kernel_rfl
  i46 := by kernel_rfl
  i51 := by kernel_rfl
  i53 := by kernel_rfl
  i171 := by kernel_rfl
  i173 := by kernel_rfl
  i212 := by kernel_rfl
  i232 := by kernel_rfl
  i233 := by kernel_rfl
  m17 := by kernel_rfl
  m18 := by kernel_rfl
  m19 := by kernel_rfl }
def lCount_ren : Go.Shelf.Ren := ⟨fun | 138 => 104 | 195 => 113 | 218 => 115 | 143 => 93 | 219 => 105 | 217 => 116 | 225 => 117 | 224 => 118 | 267 => 119 | 266 => 128 | 314 => 129 | n => n, fun | 9 => 9 | 3 => 3 | 4 => 4 | 5 => 5 | 0 => 0 | 46 => 147 | 146 => 156 | 51 => 150 | n => n, fun | 1 => 0 | n => n⟩
theorem lCount : Go.Proofs.Lays.n138 Tryd.prog lCount_ren := {
  mixed := by kernel_rfl
  f138 := Tryd.func104.trans (congrArg some (by kernel_rfl))
  f143 := Tryd.func93.trans (congrArg some (by kernel_rfl))
  f195 := Tryd.func113.trans (congrArg some (by kernel_rfl))
  f217 := Tryd.func116.trans (congrArg some (by kernel_rfl))
  f218 := Tryd.func115.trans (congrArg some (by kernel_rfl))
  f219 := Tryd.func105.trans (congrArg some (by kernel_rfl))
  f224 := Tryd.func118.trans (congrArg some (by kernel_rfl))
  f225 := Tryd.func117.trans (congrArg some (by kernel_rfl))
  f266 := Tryd.func128.trans (congrArg some (by kernel_rfl))
  f267 := Tryd.func119.trans (congrArg some (by kernel_rfl))
  f314 := Tryd.func129.trans (congrArg some (by kernel_rfl))
  t0 := Tryd.underlying0
  a0 := Tryd.isAgg0
  z0 := Tryd.sizeOf0
  v0 := Tryd.zeroValue0
  t3 := Tryd.underlying3
  a3 := Tryd.isAgg3
  z3 := Tryd.sizeOf3
  v3 := Tryd.zeroValue3
  t4 := Tryd.underlying4
  a4 := Tryd.isAgg4
  z4 := Tryd.sizeOf4
  v4 := Tryd.zeroValue4
  t5 := Tryd.underlying5
  a5 := Tryd.isAgg5
  z5 := Tryd.sizeOf5
  v5 := Tryd.zeroValue5
  t9 := Tryd.underlying9
  a9 := Tryd.isAgg9
  z9 := Tryd.sizeOf9
  v9 := Tryd.zeroValue9
  t46 := Tryd.underlying147
  a46 := Tryd.isAgg147
  z46 := Tryd.sizeOf147
  v46 := Tryd.zeroValue147
  t51 := Tryd.underlying150
  a51 := Tryd.isAgg150
  z51 := Tryd.sizeOf150
  v51 := Tryd.zeroValue150
  t146 := Tryd.underlying156
  a146 := Tryd.isAgg156
  z146 := Tryd.sizeOf156
  v146 := Tryd.zeroValue156
  g1 := by kernel_rfl }
def lJoin_ren : Go.Shelf.Ren := ⟨fun | 156 => 86 | 165 => 98 | 166 => 99 | 169 => 100 | 240 => 110 | 241 => 111 | 276 => 125 | 277 => 126 | n => n, fun | 31 => 98 | 9 => 9 | 3 => 3 | 4 => 4 | 0 => 0 | 20 => 20 | 72 => 125 | 76 => 129 | 70 => 123 | 37 => 94 | 75 => 128 | 127 => 142 | 164 => 153 | 5 => 5 | 80 => 131 | n => n, fun | n => n⟩
theorem lJoin : Go.Proofs.Lays.n156 Tryd.prog lJoin_ren := {
  mixed := by kernel_rfl
  f156 := Tryd.func86.trans (congrArg some (by kernel_rfl))
  f165 := Tryd.func98.trans (congrArg some (by kernel_rfl))
  f166 := Tryd.func99.trans (congrArg some (by kernel_rfl))
  f169 := Tryd.func100.trans (congrArg some (by kernel_rfl))
  f240 := Tryd.func110.trans (congrArg some (by kernel_rfl))
  f241 := Tryd.func111.trans (congrArg some (by kernel_rfl))
  f276 := Tryd.func125.trans (congrArg some (by kernel_rfl))
  f277 := Tryd.func126.trans (congrArg some (by kernel_rfl))
  t0 := Tryd.underlying0
  a0 := Tryd.isAgg0
  z0 := Tryd.sizeOf0
  v0 := Tryd.zeroValue0
  t3 := Tryd.underlying3
  a3 := Tryd.isAgg3
  z3 := Tryd.sizeOf3
  v3 := Tryd.zeroValue3
  t4 := Tryd.underlying4
  a4 := Tryd.isAgg4
  z4 := Tryd.sizeOf4
  v4 := Tryd.zeroValue4
  t9 := Tryd.underlying9
  a9 := Tryd.isAgg9
  z9 := Tryd.sizeOf9
  v9 := Tryd.zeroValue9
  t20 := Tryd.underlying20
  a20 := Tryd.isAgg20
  z20 := Tryd.sizeOf20
  v20 := Tryd.zeroValue20
  t31 := Tryd.underlying98
  a31 := Tryd.isAgg98
  z31 := Tryd.sizeOf98
  v31 := Tryd.zeroValue98
  t37 := Tryd.underlying94
  a37 := Tryd.isAgg94
  z37 := Tryd.sizeOf94
  v37 := Tryd.zeroValue94
  t70 := Tryd.underlying123
  a70 := Tryd.isAgg123
  z70 := Tryd.sizeOf123
  v70 := Tryd.zeroValue123
  t72 := Tryd.underlying125
  a72 := Tryd.isAgg125
  z72 := Tryd.sizeOf125
  v72 := Tryd.zeroValue125
  t75 := Tryd.underlying128
  a75 := Tryd.isAgg128
  z75 := Tryd.sizeOf128
  v75 := Tryd.zeroValue128
  t76 := Tryd.underlying129
  a76 := Tryd.isAgg129
  z76 := Tryd.sizeOf129
  v76 := Tryd.zeroValue129
  t127 := Tryd.underlying142
  a127 := Tryd.isAgg142
  z127 := Tryd.sizeOf142
  v127 := Tryd.zeroValue142
  t164 := Tryd.underlying153
  a164 := Tryd.isAgg153
  z164 := Tryd.sizeOf153
  v164 := Tryd.zeroValue153 }

theorem one_byte (s : ByteArray) (h : s.size = 1) : ∃ c, s = ⟨#[c]⟩ := by
  cases s with
  | mk d =>
    have h : d.size = 1 := h
    obtain ⟨c, hc⟩ := List.length_eq_one_iff.1 (show d.toList.length = 1 from h)
    exact ⟨c, str_ext hc⟩
/-! Itoa. -/
def itoaF : List Value → Option Value
  | [.int .i64 n] => if -9223372036854775808 ≤ n ∧ n ≤ 9223372036854775807 then some (.string (mk (Lib.itoa n))) else none
  | _ => none
theorem itoa_sound : SoundQ Tryd.prog 54 (flatSem itoaF) := lib_sound (fun args r h => by
    unfold itoaF at h
    split at h
    · split at h <;> cases h
      exact ⟨rfl, rfl⟩
    · cases h) (fun args r W h hg => by
    unfold itoaF at h
    split at h
    · rename_i n
      split at h <;> cases h
      rename_i hn
      refine (Any.strconv_Itoa lItoa n hn.1 hn.2 W hg).mono ?_
      rintro e w' ⟨rfl, k, os, rfl⟩
      exact ⟨rfl, fun j hj => by simp [Sort.grow, World.drewN, hj, Array.getElem?_append_left], rfl, rfl, rfl⟩
    · cases h)
def e_itoa : Ent Tryd.prog := .flat 54 itoaF ⟨_, Tryd.func54, rfl, by kernel_rfl⟩ itoa_sound

/-! Count of a byte. -/
def countF : List Value → Option Value
  | [.string s, .string sep] => if sep.size = 1 then some (.int .i64 (Lib.countByte s.data.toList (sep.data.toList.getD 0 0))) else none
  | _ => none
theorem strCount_sound : SoundQ Tryd.prog 104 (flatSem countF) := lib_sound (fun args r h => by
    unfold countF at h
    split at h
    · split at h <;> cases h
      exact ⟨rfl, rfl⟩
    · cases h) (fun args r W h hg => by
    unfold countF at h
    split at h
    · rename_i s sep
      split at h <;> cases h
      rename_i hn
      obtain ⟨c, rfl⟩ := one_byte sep hn
      refine (Any.strings_Count_one lCount s c W).mono ?_
      rintro e w' ⟨rfl, rfl⟩
      exact ⟨rfl, Keeps.refl _⟩
    · cases h)
def e_strCount : Ent Tryd.prog := .flat 104 countF ⟨_, Tryd.func104, rfl, by kernel_rfl⟩ strCount_sound

/-! Index of a byte. -/
theorem idxByteC (s : ByteArray) (c : Int) (w : World) :
    Calls Tryd.prog 116 #[.string s, .int .u8 c] w fun e w' => e = .returned (.int .i64 (Lib.indexByte s.data.toList c.toNat.toUInt8)) ∧ w' = w := by
  go_enter Tryd.func116, Tryd.ntmps116
  go_wp2
  rw [run_callFunc_extern Tryd.func128 (by kernel_rfl) (by kernel_rfl) (by kernel_rfl) (e := Extern.BytealgIndexByte.indexByte) (by kernel_rfl), Lib.run_indexByteString]
  simp only [Result.andThen]
  rw [Oper.upon_value]
  go_wp2
  go_ret
  exact ⟨rfl, rfl⟩
def idxByteF : List Value → Option Value
  | [.string s, .int .u8 c] => some (.int .i64 (Lib.indexByte s.data.toList c.toNat.toUInt8))
  | _ => none
theorem idxByte_sound : SoundQ Tryd.prog 116 (flatSem idxByteF) := lib_sound (fun args r h => by
    unfold idxByteF at h
    split at h <;> cases h
    exact ⟨rfl, rfl⟩) (fun args r W h hg => by
    unfold idxByteF at h
    split at h
    · rename_i s c
      cases h
      refine (idxByteC s c W).mono ?_
      rintro e w' ⟨h1, h2⟩
      subst h2
      exact ⟨h1, Keeps.refl _⟩
    · cases h)
def e_idxByte : Ent Tryd.prog := .flat 116 idxByteF ⟨_, Tryd.func116, rfl, by kernel_rfl⟩ idxByte_sound

theorem u8_back (c : UInt8) : ((({ data := #[c] } : ByteArray).data.toList.getD (Int.toNat 0) 0).toNat : Int).toNat.toUInt8 = c := by simp
theorem idx_one (c : UInt8) : Lib.indexByte [c] c = 0 := by simp [Lib.indexByte]
noncomputable def slIndex_F : List DV → Option (List DV)
  | [.v (.string s), .v (.string p)] => if p.size = 1 then some [.v (.int .i64 (Lib.indexByte (bs s) ((bs p).getD 0 0)))] else none
  | _ => none
theorem slIndex_sound : SoundW Tryd.prog 105 (deepSem slIndex_F) := by
  refine deep_sound (env_ok (N := Tryd.f105.ntmps) (l := [e_idxByte]) (live := [(1, [0, 1, 5, 6, 7, 8, 9, 10])]) (ord := [])) Tryd.func105 ?_
  intro ds rs h hg
  unfold slIndex_F at h
  split at h
  case h_2 => cases h
  rename_i s p
  split at h
  case isFalse => cases h
  rename_i hpre
  have hp := hpre
  clear hg
  all_goals cases h
  obtain ⟨c, rfl⟩ := one_byte p hp
  (refine abody_nb (nb' := 0) rfl ?_; (conv => whnf); refine body_in (by kernel_rfl) (fun K' hK => ?_))
  repeat' (first | (with_reducible refine Step.mk ?_) | ((with_reducible refine a_cons ?_); conv => whnf) | (with_reducible refine k_reg ?_) | (with_reducible refine a_nil ?_) | (with_reducible refine k_seq ?_) | (with_reducible refine w_seq ?_) | (with_reducible refine w_reg ?_) | ((with_reducible refine c_cons ?_); conv => whnf) | (with_reducible refine c_nil ?_) | ((with_reducible refine w_cond ?_); conv => whnf) | (with_reducible refine w_block ?_) | (with_reducible refine k_blk ?_) | (with_reducible refine w_exit ?_) | (with_reducible refine w_ret ?_) | (with_reducible refine w_skip ?_) | (with_reducible refine k_seqe ?_) | (with_reducible refine k_seqr ?_) | (with_reducible refine k_blkr ?_) | (with_reducible refine k_rnde ?_) | (with_reducible refine k_rndr ?_) | (with_reducible refine k_ale ?_) | (with_reducible refine k_alr ?_) | ((with_reducible refine k_blke ?_); conv => whnf) | ((with_reducible refine k_rndn ?_); conv => whnf) | ((with_reducible refine k_aln ?_); conv => whnf) | ((with_reducible refine k_lam ?_); conv => whnf) | ((with_reducible refine w_loop ?_); conv => whnf) | (with_reducible refine w_aloop ?_) | ((with_reducible refine q_cons ?_); conv => whnf) | (with_reducible refine q_nil ?_) | ((with_reducible refine w_isd ?_); first | refine dg_drawn rfl ?_ | refine dg_quiet rfl ?_) | (with_reducible refine body_in (by kernel_rfl) (fun K' hK => ?_)) | (with_reducible refine kout (by assumption) ?_) | ((first | refine WholeK.whole ⟨by first | rfl | omega | (simp; done), by (first | rfl | omega | (simp; done) | (simp; omega) | (simp [*]; done) | (simp [*]; omega))⟩ ?_ | refine WholeK.part ?_ | refine FitK.mk (by first | omega | (simp only [size_one, size_nil]; omega) | (with_reducible assumption) | (simp only [size_app, size_one, size_nil, size_mk, size_ext, size_lit, List.length_append, List.length_cons, List.length_nil]; omega)) ?_ | refine chk_intro (by (first | (simp [isOne]; done) | ((try simp only [Bool.and_eq_true, decide_eq_true_eq, Nat.blt_eq, Nat.ble_eq, Nat.beq_eq_true_eq]); simp [isOne]; omega) | (simp [-List.getD_eq_getElem?_getD, isOne, *]; done) | (simp [-List.getD_eq_getElem?_getD, isOne, *]; omega))) ?_ | refine bcase_t (by with_reducible assumption) ?_ | refine bcase_f (by with_reducible assumption) ?_ | refine bcase_dt (by with_reducible assumption) ?_ | refine bcase_df (by with_reducible assumption) ?_ | refine bcase_t (by assumption) ?_ | refine bcase_f (by assumption) ?_ | refine bcase_dt (by assumption) ?_ | refine bcase_df (by assumption) ?_ | refine optK_if (by (first | (with_reducible assumption) | (simp [isOne]; done) | ((try simp only [Bool.and_eq_true, decide_eq_true_eq, Nat.blt_eq, Nat.ble_eq, Nat.beq_eq_true_eq]); simp [isOne]; omega) | (simp [-List.getD_eq_getElem?_getD, isOne, *]; done) | (simp [-List.getD_eq_getElem?_getD, isOne, *]; omega) | omega | assumption)) ?_ | refine callBP (by with_reducible assumption) ?_ | refine callD rfl ?_ | refine callBP (by (first | (with_reducible assumption) | (simp [isOne]; done) | ((try simp only [Bool.and_eq_true, decide_eq_true_eq, Nat.blt_eq, Nat.ble_eq, Nat.beq_eq_true_eq]); simp [isOne]; omega) | (simp [-List.getD_eq_getElem?_getD, isOne, *]; done) | (simp [-List.getD_eq_getElem?_getD, isOne, *]; omega) | omega | assumption)) ?_ | refine callBN (by (first | (simp [isOne]; done) | ((try simp only [Bool.and_eq_true, decide_eq_true_eq, Nat.blt_eq, Nat.ble_eq, Nat.beq_eq_true_eq]); simp [isOne]; omega) | (simp [-List.getD_eq_getElem?_getD, isOne, *]; done) | (simp [-List.getD_eq_getElem?_getD, isOne, *]; omega))) ?_ | refine callM rfl ?_ | refine callS ?_ | refine callB (fun h => ?_) (fun h => ?_) | refine notsplit ?_ | refine bcase_dt (by omega) ?_ | refine bcase_df (by omega) ?_ | refine dsplit (fun h => ?_) (fun h => ?_) | refine esplit (fun h => ?_) (fun h => ?_) | refine nsplit (fun h => ?_) (fun h => ?_) | refine bsplit (fun h => ?_) (fun h => ?_)) <;> conv => whnf))
  · (((try conv => whnf) <;> repeat' (first | exact trivial | (with_reducible rfl) | exact (rfl : _ = true) | exact (rfl : (_ : Value) = _) | exact id | exact fun _ => rfl | ((refine And.intro ?_ ?_) <;> (try conv => whnf)) | exact Or.inl ⟨rfl, fun _ _ => rfl⟩ | ((refine Or.inr ?_) <;> (try conv => whnf)))) <;> (try simp only [List.getElem_toArray, List.getElem_cons_zero, List.getElem_cons_succ, Int.toNat_natCast, Int.toNat_zero, Nat.zero_mul, Nat.zero_add, Nat.add_zero, Nat.mul_one, Nat.one_mul, List.drop_zero, getD_last', y1_s, y2_s, y3_s, y4_s, y5_s, y6_s, y7_s, y8_s, y9_s, y10_s, y11_s, y12_s, y13_s, y14_s, y15_s, y16_s, y17_s, y18_s, y19_s, y21_s, y22_s, y23_s, y24_s, y26_s, y27_s, y28_s, y29_s, y30_s, y31_s, y32_s, y33_s, y34_s, y35_s, y36_s, y37_s, y38_s, y39_s, y40_s, y41_s, y43_s, y44_s, y45_s, y46_s, y47_s, y48_s, y49_s, y50_s, y51_s, y52_s, y54_s, y56_s, y57_s, y58_s, y60_s, y61_s, y62_s, y63_s, y64_s, y65_s, y66_s, y67_s, y68_s, y69_s, y70_s, y71_s, y72_s, y73_s, y74_s, y76_s, y77_s, y78_s, y79_s, y80_s, y81_s, y82_s, y83_s, y84_s, y85_s, y86_s, y87_s, y88_s, y90_s, y92_s, y93_s, y94_s, y95_s, y96_s, y97_s, y98_s, y99_s, y100_s, y101_s, y102_s, y103_s, y104_s, y106_s, y107_s, y108_s, y109_s, y110_s, y112_s, y114_s, y115_s, y116_s, y117_s, y118_s, y119_s, y120_s, y121_s, y122_s, y123_s, y124_s, y125_s, y126_s, y130_s, y131_s, y133_s, y134_s, y135_s, y136_s, y137_s, y138_s, y139_s, y141_s, y142_s, y144_s, y145_s, y146_s, y147_s, y148_s, y149_s, y150_s, y151_s, y152_s, y154_s, y155_s, y157_s, y158_s, y159_s, y160_s, y161_s, y162_s, y163_s, y164_s, y165_s, y166_s, y170_s, y171_s, y172_s, y173_s, y174_s, y175_s, y176_s] at *) <;> ((first | (first | exact Go.Eng.wrap_small (by omega) | (rw [Option.some.injEq]; omega) | (rw [Go.Eng.wrap_small (by omega)]; omega) | exact wrap_succ (by omega) | exact (wrap_succ (by omega)).symm | omega | (simp; done) | assumption | rfl) | (rw [str_eq, decide_eq_true_eq] at h; show 0 = Lib.indexByte (bs s) c; rw [← h]; exact (idx_one c).symm))))
  · (((try conv => whnf) <;> repeat' (first | exact trivial | (with_reducible rfl) | exact (rfl : _ = true) | exact (rfl : (_ : Value) = _) | exact id | exact fun _ => rfl | ((refine And.intro ?_ ?_) <;> (try conv => whnf)) | exact Or.inl ⟨rfl, fun _ _ => rfl⟩ | ((refine Or.inr ?_) <;> (try conv => whnf)))) <;> (try simp only [List.getElem_toArray, List.getElem_cons_zero, List.getElem_cons_succ, Int.toNat_natCast, Int.toNat_zero, Nat.zero_mul, Nat.zero_add, Nat.add_zero, Nat.mul_one, Nat.one_mul, List.drop_zero, getD_last', y1_s, y2_s, y3_s, y4_s, y5_s, y6_s, y7_s, y8_s, y9_s, y10_s, y11_s, y12_s, y13_s, y14_s, y15_s, y16_s, y17_s, y18_s, y19_s, y21_s, y22_s, y23_s, y24_s, y26_s, y27_s, y28_s, y29_s, y30_s, y31_s, y32_s, y33_s, y34_s, y35_s, y36_s, y37_s, y38_s, y39_s, y40_s, y41_s, y43_s, y44_s, y45_s, y46_s, y47_s, y48_s, y49_s, y50_s, y51_s, y52_s, y54_s, y56_s, y57_s, y58_s, y60_s, y61_s, y62_s, y63_s, y64_s, y65_s, y66_s, y67_s, y68_s, y69_s, y70_s, y71_s, y72_s, y73_s, y74_s, y76_s, y77_s, y78_s, y79_s, y80_s, y81_s, y82_s, y83_s, y84_s, y85_s, y86_s, y87_s, y88_s, y90_s, y92_s, y93_s, y94_s, y95_s, y96_s, y97_s, y98_s, y99_s, y100_s, y101_s, y102_s, y103_s, y104_s, y106_s, y107_s, y108_s, y109_s, y110_s, y112_s, y114_s, y115_s, y116_s, y117_s, y118_s, y119_s, y120_s, y121_s, y122_s, y123_s, y124_s, y125_s, y126_s, y130_s, y131_s, y133_s, y134_s, y135_s, y136_s, y137_s, y138_s, y139_s, y141_s, y142_s, y144_s, y145_s, y146_s, y147_s, y148_s, y149_s, y150_s, y151_s, y152_s, y154_s, y155_s, y157_s, y158_s, y159_s, y160_s, y161_s, y162_s, y163_s, y164_s, y165_s, y166_s, y170_s, y171_s, y172_s, y173_s, y174_s, y175_s, y176_s] at *) <;> ((first | (first | exact Go.Eng.wrap_small (by omega) | (rw [Option.some.injEq]; omega) | (rw [Go.Eng.wrap_small (by omega)]; omega) | exact wrap_succ (by omega) | exact (wrap_succ (by omega)).symm | omega | (simp; done) | assumption | rfl) | exact congrArg (Lib.indexByte s.data.toList) (u8_back c))))
noncomputable def e_slIndex : Ent Tryd.prog := .deep 105 slIndex_F ⟨_, Tryd.func105, rfl, by kernel_rfl⟩ slIndex_sound

noncomputable def e_strIndex : Ent Tryd.prog := .wide 93 (abody (env Tryd.f93.ntmps [e_slIndex] [] []) Tryd.f93) ⟨_, Tryd.func93, rfl, by kernel_rfl⟩ (wide_sound env_ok Tryd.func93 fun _ _ _ _ h => h)

noncomputable def e_strContains : Ent Tryd.prog := .wide 78 (abody (env Tryd.f78.ntmps [e_strIndex] [] []) Tryd.f78) ⟨_, Tryd.func78, rfl, by kernel_rfl⟩ (wide_sound env_ok Tryd.func78 fun _ _ _ _ h => h)

/-! Cut at a byte. -/
noncomputable def slCut_F : List DV → Option (List DV)
  | [.v (.string s), .v (.string p)] => if p.size = 1 ∧ s.size ≤ 1048576 then some [.v (.string (mk (cutL (bs s) ((bs p).getD 0 0)).1)), .v (.string (mk (cutL (bs s) ((bs p).getD 0 0)).2.1)), .v (.bool ((cutL (bs s) ((bs p).getD 0 0)).2.2))] else none
  | _ => none
theorem slCut_sound : SoundW Tryd.prog 112 (deepSem slCut_F) := by
  refine deep_sound (env_ok (N := Tryd.f112.ntmps) (l := [e_slIndex]) (live := []) (ord := [(3, .draw [(0, []), (1, []), (2, []), (3, []), (4, []), (5, []), (6, []), (7, []), (8, []), (9, []), (10, []), (11, [])] [])])) Tryd.func112 ?_
  intro ds rs h hg
  unfold slCut_F at h
  split at h
  case h_2 => cases h
  rename_i s p
  split at h
  case isFalse => cases h
  rename_i hpre
  have hp := hpre
  clear hg
  all_goals cases h
  obtain ⟨c, rfl⟩ := one_byte p hp.1
  have hs : s.size ≤ 1048576 := hp.2
  have hc0 : (bs ({ data := #[c] } : ByteArray)).getD 0 0 = c := rfl
  rcases Int.lt_or_le (Lib.indexByte (bs s) c) 0 with hi | hi
  · have hcut := cut_miss hi
    have hi' : ¬ Lib.indexByte (bs s) ((bs ({ data := #[c] } : ByteArray)).getD 0 0) ≥ 0 := by rw [hc0]; omega
    (refine abody_nb (nb' := 0) rfl ?_; (conv => whnf); refine body_in (by kernel_rfl) (fun K' hK => ?_))
    repeat' (first | (with_reducible refine Step.mk ?_) | ((with_reducible refine a_cons ?_); conv => whnf) | (with_reducible refine k_reg ?_) | (with_reducible refine a_nil ?_) | (with_reducible refine k_seq ?_) | (with_reducible refine w_seq ?_) | (with_reducible refine w_reg ?_) | ((with_reducible refine c_cons ?_); conv => whnf) | (with_reducible refine c_nil ?_) | ((with_reducible refine w_cond ?_); conv => whnf) | (with_reducible refine w_block ?_) | (with_reducible refine k_blk ?_) | (with_reducible refine w_exit ?_) | (with_reducible refine w_ret ?_) | (with_reducible refine w_skip ?_) | (with_reducible refine k_seqe ?_) | (with_reducible refine k_seqr ?_) | (with_reducible refine k_blkr ?_) | (with_reducible refine k_rnde ?_) | (with_reducible refine k_rndr ?_) | (with_reducible refine k_ale ?_) | (with_reducible refine k_alr ?_) | ((with_reducible refine k_blke ?_); conv => whnf) | ((with_reducible refine k_rndn ?_); conv => whnf) | ((with_reducible refine k_aln ?_); conv => whnf) | ((with_reducible refine k_lam ?_); conv => whnf) | ((with_reducible refine w_loop ?_); conv => whnf) | (with_reducible refine w_aloop ?_) | ((with_reducible refine q_cons ?_); conv => whnf) | (with_reducible refine q_nil ?_) | ((with_reducible refine w_isd ?_); first | refine dg_drawn rfl ?_ | refine dg_quiet rfl ?_) | (with_reducible refine body_in (by kernel_rfl) (fun K' hK => ?_)) | (with_reducible refine kout (by assumption) ?_) | ((first | refine WholeK.whole ⟨by first | rfl | omega | (simp; done), by (first | rfl | omega | (simp; done) | (simp; omega) | (simp [*]; done) | (simp [*]; omega))⟩ ?_ | refine WholeK.part ?_ | refine FitK.mk (by first | omega | (simp only [size_one, size_nil]; omega) | (with_reducible assumption) | (simp only [size_app, size_one, size_nil, size_mk, size_ext, size_lit, List.length_append, List.length_cons, List.length_nil]; omega)) ?_ | refine chk_intro (by (first | (simp [isOne]; done) | ((try simp only [Bool.and_eq_true, decide_eq_true_eq, Nat.blt_eq, Nat.ble_eq, Nat.beq_eq_true_eq]); simp [isOne]; omega) | (simp [-List.getD_eq_getElem?_getD, isOne, *]; done) | (simp [-List.getD_eq_getElem?_getD, isOne, *]; omega))) ?_ | refine bcase_t (by with_reducible assumption) ?_ | refine bcase_f (by with_reducible assumption) ?_ | refine bcase_dt (by with_reducible assumption) ?_ | refine bcase_df (by with_reducible assumption) ?_ | refine bcase_t (by assumption) ?_ | refine bcase_f (by assumption) ?_ | refine bcase_dt (by assumption) ?_ | refine bcase_df (by assumption) ?_ | refine optK_if (by (first | (with_reducible assumption) | (simp [isOne]; done) | ((try simp only [Bool.and_eq_true, decide_eq_true_eq, Nat.blt_eq, Nat.ble_eq, Nat.beq_eq_true_eq]); simp [isOne]; omega) | (simp [-List.getD_eq_getElem?_getD, isOne, *]; done) | (simp [-List.getD_eq_getElem?_getD, isOne, *]; omega) | omega | assumption)) ?_ | refine callBP (by with_reducible assumption) ?_ | refine callD rfl ?_ | refine callBP (by (first | (with_reducible assumption) | (simp [isOne]; done) | ((try simp only [Bool.and_eq_true, decide_eq_true_eq, Nat.blt_eq, Nat.ble_eq, Nat.beq_eq_true_eq]); simp [isOne]; omega) | (simp [-List.getD_eq_getElem?_getD, isOne, *]; done) | (simp [-List.getD_eq_getElem?_getD, isOne, *]; omega) | omega | assumption)) ?_ | refine callBN (by (first | (simp [isOne]; done) | ((try simp only [Bool.and_eq_true, decide_eq_true_eq, Nat.blt_eq, Nat.ble_eq, Nat.beq_eq_true_eq]); simp [isOne]; omega) | (simp [-List.getD_eq_getElem?_getD, isOne, *]; done) | (simp [-List.getD_eq_getElem?_getD, isOne, *]; omega))) ?_ | refine callM rfl ?_ | refine callS ?_ | refine callB (fun h => ?_) (fun h => ?_) | refine notsplit ?_ | refine bcase_dt (by omega) ?_ | refine bcase_df (by omega) ?_ | refine dsplit (fun h => ?_) (fun h => ?_) | refine esplit (fun h => ?_) (fun h => ?_) | refine nsplit (fun h => ?_) (fun h => ?_) | refine bsplit (fun h => ?_) (fun h => ?_)) <;> conv => whnf))
    (((try conv => whnf) <;> repeat' (first | exact trivial | (with_reducible rfl) | exact (rfl : _ = true) | exact (rfl : (_ : Value) = _) | exact id | exact fun _ => rfl | ((refine And.intro ?_ ?_) <;> (try conv => whnf)) | exact Or.inl ⟨rfl, fun _ _ => rfl⟩ | ((refine Or.inr ?_) <;> (try conv => whnf)))) <;> (try simp only [List.getElem_toArray, List.getElem_cons_zero, List.getElem_cons_succ, Int.toNat_natCast, Int.toNat_zero, Nat.zero_mul, Nat.zero_add, Nat.add_zero, Nat.mul_one, Nat.one_mul, List.drop_zero, getD_last', y1_s, y2_s, y3_s, y4_s, y5_s, y6_s, y7_s, y8_s, y9_s, y10_s, y11_s, y12_s, y13_s, y14_s, y15_s, y16_s, y17_s, y18_s, y19_s, y21_s, y22_s, y23_s, y24_s, y26_s, y27_s, y28_s, y29_s, y30_s, y31_s, y32_s, y33_s, y34_s, y35_s, y36_s, y37_s, y38_s, y39_s, y40_s, y41_s, y43_s, y44_s, y45_s, y46_s, y47_s, y48_s, y49_s, y50_s, y51_s, y52_s, y54_s, y56_s, y57_s, y58_s, y60_s, y61_s, y62_s, y63_s, y64_s, y65_s, y66_s, y67_s, y68_s, y69_s, y70_s, y71_s, y72_s, y73_s, y74_s, y76_s, y77_s, y78_s, y79_s, y80_s, y81_s, y82_s, y83_s, y84_s, y85_s, y86_s, y87_s, y88_s, y90_s, y92_s, y93_s, y94_s, y95_s, y96_s, y97_s, y98_s, y99_s, y100_s, y101_s, y102_s, y103_s, y104_s, y106_s, y107_s, y108_s, y109_s, y110_s, y112_s, y114_s, y115_s, y116_s, y117_s, y118_s, y119_s, y120_s, y121_s, y122_s, y123_s, y124_s, y125_s, y126_s, y130_s, y131_s, y133_s, y134_s, y135_s, y136_s, y137_s, y138_s, y139_s, y141_s, y142_s, y144_s, y145_s, y146_s, y147_s, y148_s, y149_s, y150_s, y151_s, y152_s, y154_s, y155_s, y157_s, y158_s, y159_s, y160_s, y161_s, y162_s, y163_s, y164_s, y165_s, y166_s, y170_s, y171_s, y172_s, y173_s, y174_s, y175_s, y176_s] at *) <;> ((first | (first | exact Go.Eng.wrap_small (by omega) | (rw [Option.some.injEq]; omega) | (rw [Go.Eng.wrap_small (by omega)]; omega) | exact wrap_succ (by omega) | exact (wrap_succ (by omega)).symm | omega | (simp; done) | assumption | rfl) | (rw [hc0, hcut]; done) | (rw [hc0, hcut]; exact str_ext rfl))))
  · obtain ⟨o, ho⟩ := Int.eq_ofNat_of_zero_le hi
    obtain ⟨hcut, hlt⟩ := cut_hit ho
    rw [bs_len] at hlt
    have ho' : Lib.indexByte (bs s) ((bs ({ data := #[c] } : ByteArray)).getD 0 0) = (o : Int) := by rw [hc0]; exact ho
    have hw : IntKind.i64.wrap ((o : Int) + ({ data := #[c] } : ByteArray).size) = ((o + 1 : Nat) : Int) := wrap_succ (by omega)
    (refine abody_nb (nb' := 0) rfl ?_; (conv => whnf); refine body_in (by kernel_rfl) (fun K' hK => ?_))
    repeat' (first | (with_reducible refine Step.mk ?_) | ((with_reducible refine a_cons ?_); conv => whnf) | (with_reducible refine k_reg ?_) | (with_reducible refine a_nil ?_) | (with_reducible refine k_seq ?_) | (with_reducible refine w_seq ?_) | (with_reducible refine w_reg ?_) | ((with_reducible refine c_cons ?_); conv => whnf) | (with_reducible refine c_nil ?_) | ((with_reducible refine w_cond ?_); conv => whnf) | (with_reducible refine w_block ?_) | (with_reducible refine k_blk ?_) | (with_reducible refine w_exit ?_) | (with_reducible refine w_ret ?_) | (with_reducible refine w_skip ?_) | (with_reducible refine k_seqe ?_) | (with_reducible refine k_seqr ?_) | (with_reducible refine k_blkr ?_) | (with_reducible refine k_rnde ?_) | (with_reducible refine k_rndr ?_) | (with_reducible refine k_ale ?_) | (with_reducible refine k_alr ?_) | ((with_reducible refine k_blke ?_); conv => whnf) | ((with_reducible refine k_rndn ?_); conv => whnf) | ((with_reducible refine k_aln ?_); conv => whnf) | ((with_reducible refine k_lam ?_); conv => whnf) | ((with_reducible refine w_loop ?_); conv => whnf) | (with_reducible refine w_aloop ?_) | ((with_reducible refine q_cons ?_); conv => whnf) | (with_reducible refine q_nil ?_) | ((with_reducible refine w_isd ?_); first | refine dg_drawn rfl ?_ | refine dg_quiet rfl ?_) | (with_reducible refine body_in (by kernel_rfl) (fun K' hK => ?_)) | (with_reducible refine kout (by assumption) ?_) | ((first | refine WholeK.whole ⟨by first | rfl | omega | (simp; done), by (first | rfl | omega | (simp; done) | (simp; omega) | (simp [*]; done) | (simp [*]; omega))⟩ ?_ | refine WholeK.part ?_ | refine FitK.mk (by first | omega | (simp only [size_one, size_nil]; omega) | (with_reducible assumption) | (simp only [size_app, size_one, size_nil, size_mk, size_ext, size_lit, List.length_append, List.length_cons, List.length_nil]; omega)) ?_ | refine chk_intro (by (first | (simp [isOne]; done) | ((try simp only [Bool.and_eq_true, decide_eq_true_eq, Nat.blt_eq, Nat.ble_eq, Nat.beq_eq_true_eq]); simp [isOne]; omega) | (simp [-List.getD_eq_getElem?_getD, isOne, *]; done) | (simp [-List.getD_eq_getElem?_getD, isOne, *]; omega))) ?_ | refine bcase_t (by with_reducible assumption) ?_ | refine bcase_f (by with_reducible assumption) ?_ | refine bcase_dt (by with_reducible assumption) ?_ | refine bcase_df (by with_reducible assumption) ?_ | refine bcase_t (by assumption) ?_ | refine bcase_f (by assumption) ?_ | refine bcase_dt (by assumption) ?_ | refine bcase_df (by assumption) ?_ | refine optK_if (by (first | (with_reducible assumption) | (simp [isOne]; done) | ((try simp only [Bool.and_eq_true, decide_eq_true_eq, Nat.blt_eq, Nat.ble_eq, Nat.beq_eq_true_eq]); simp [isOne]; omega) | (simp [-List.getD_eq_getElem?_getD, isOne, *]; done) | (simp [-List.getD_eq_getElem?_getD, isOne, *]; omega) | omega | assumption)) ?_ | refine callBP (by with_reducible assumption) ?_ | refine callD rfl ?_ | refine callBP (by (first | (with_reducible assumption) | (simp [isOne]; done) | ((try simp only [Bool.and_eq_true, decide_eq_true_eq, Nat.blt_eq, Nat.ble_eq, Nat.beq_eq_true_eq]); simp [isOne]; omega) | (simp [-List.getD_eq_getElem?_getD, isOne, *]; done) | (simp [-List.getD_eq_getElem?_getD, isOne, *]; omega) | omega | assumption)) ?_ | refine callBN (by (first | (simp [isOne]; done) | ((try simp only [Bool.and_eq_true, decide_eq_true_eq, Nat.blt_eq, Nat.ble_eq, Nat.beq_eq_true_eq]); simp [isOne]; omega) | (simp [-List.getD_eq_getElem?_getD, isOne, *]; done) | (simp [-List.getD_eq_getElem?_getD, isOne, *]; omega))) ?_ | refine callM rfl ?_ | refine callS ?_ | refine callB (fun h => ?_) (fun h => ?_) | refine notsplit ?_ | refine bcase_dt (by omega) ?_ | refine bcase_df (by omega) ?_ | refine dsplit (fun h => ?_) (fun h => ?_) | refine esplit (fun h => ?_) (fun h => ?_) | refine nsplit (fun h => ?_) (fun h => ?_) | refine bsplit (fun h => ?_) (fun h => ?_)) <;> conv => whnf))
    · (((try conv => whnf) <;> repeat' (first | exact trivial | (with_reducible rfl) | exact (rfl : _ = true) | exact (rfl : (_ : Value) = _) | exact id | exact fun _ => rfl | ((refine And.intro ?_ ?_) <;> (try conv => whnf)) | exact Or.inl ⟨rfl, fun _ _ => rfl⟩ | ((refine Or.inr ?_) <;> (try conv => whnf)))) <;> (try simp only [List.getElem_toArray, List.getElem_cons_zero, List.getElem_cons_succ, Int.toNat_natCast, Int.toNat_zero, Nat.zero_mul, Nat.zero_add, Nat.add_zero, Nat.mul_one, Nat.one_mul, List.drop_zero, getD_last', y1_s, y2_s, y3_s, y4_s, y5_s, y6_s, y7_s, y8_s, y9_s, y10_s, y11_s, y12_s, y13_s, y14_s, y15_s, y16_s, y17_s, y18_s, y19_s, y21_s, y22_s, y23_s, y24_s, y26_s, y27_s, y28_s, y29_s, y30_s, y31_s, y32_s, y33_s, y34_s, y35_s, y36_s, y37_s, y38_s, y39_s, y40_s, y41_s, y43_s, y44_s, y45_s, y46_s, y47_s, y48_s, y49_s, y50_s, y51_s, y52_s, y54_s, y56_s, y57_s, y58_s, y60_s, y61_s, y62_s, y63_s, y64_s, y65_s, y66_s, y67_s, y68_s, y69_s, y70_s, y71_s, y72_s, y73_s, y74_s, y76_s, y77_s, y78_s, y79_s, y80_s, y81_s, y82_s, y83_s, y84_s, y85_s, y86_s, y87_s, y88_s, y90_s, y92_s, y93_s, y94_s, y95_s, y96_s, y97_s, y98_s, y99_s, y100_s, y101_s, y102_s, y103_s, y104_s, y106_s, y107_s, y108_s, y109_s, y110_s, y112_s, y114_s, y115_s, y116_s, y117_s, y118_s, y119_s, y120_s, y121_s, y122_s, y123_s, y124_s, y125_s, y126_s, y130_s, y131_s, y133_s, y134_s, y135_s, y136_s, y137_s, y138_s, y139_s, y141_s, y142_s, y144_s, y145_s, y146_s, y147_s, y148_s, y149_s, y150_s, y151_s, y152_s, y154_s, y155_s, y157_s, y158_s, y159_s, y160_s, y161_s, y162_s, y163_s, y164_s, y165_s, y166_s, y170_s, y171_s, y172_s, y173_s, y174_s, y175_s, y176_s] at *) <;> ((first | (first | exact Go.Eng.wrap_small (by omega) | (rw [Option.some.injEq]; omega) | (rw [Go.Eng.wrap_small (by omega)]; omega) | exact wrap_succ (by omega) | exact (wrap_succ (by omega)).symm | omega | (simp; done) | assumption | rfl) | (simp only [ho', hw]; rw [hc0, hcut]; exact str_ext (by rw [bs_ext]; simp [bs_take, bs_mk])) | (rw [hc0, hcut]; done))))
    · exfalso; clear hK; rw [ho', hw] at h; simp at h; omega
noncomputable def e_slCut : Ent Tryd.prog := .deep 112 slCut_F ⟨_, Tryd.func112, rfl, by kernel_rfl⟩ slCut_sound

noncomputable def e_strCut : Ent Tryd.prog := .wide 101 (abody (env Tryd.f101.ntmps [e_slCut] [] []) Tryd.f101) ⟨_, Tryd.func101, rfl, by kernel_rfl⟩ (wide_sound env_ok Tryd.func101 fun _ _ _ _ h => h)

end Go.Proofs.YtbhlncohfpempaaDoor
