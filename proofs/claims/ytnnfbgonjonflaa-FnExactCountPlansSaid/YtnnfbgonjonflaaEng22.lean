/- A part of the interpreter of Go code, and of the proof that it says what Go does; no condition. -/
import Derived.Test.YtnnfbgonjonflaaEng16
import Derived.Lib.LaidTab
import Derived.LaidHandle
import Derived.LaidSub
import Derived.LaidMore
import Derived.Stop.Joined
/-! A law whose row lists variables of packages; library functions that are known by their contracts. -/
set_option linter.unusedSimpArgs false
set_option linter.unusedVariables false
namespace Go.Eng
open Go.RowKit Go.WideShapes Go.ChangeShapes Go.ChangeAt
variable {P : Program}

section
variable {H : Type} {enc : TypeId × Value → H}

/-- **A LAW's ROW THAT LISTS VARIABLES, BUT FOR ITS CLOSED FACTS.** -/
theorem law_handed_laid {C : Checked} {os : Os} {f : FuncId} {fn : Func} {s : ChangeSpec} {tb : Nat} {L : List (String × DataW Unit)} (own : ownKnob C.prog.godebug = none) (started : os.Started) (noInit : C.prog.inits.idxOf? f = none) (hfn : C.prog.funcs[f]? = some fn)
    (hvars : s.vars = []) (hres : fn.resultTypes = #[tb]) (hb : C.prog.underlying tb = some .bool)
    (hspec : ∀ (ds : List (DataW H)), ds.length = fn.params.size → s.fn H ds = { results := [.lit (.bool true)], args := ds })
    (laid : laidOutB C.prog = true) (hread : (fn.params.toList.all fun t => C.prog.readableRec t && decide (t < C.prog.types.size)) = true)
    (witness : ∃ (w : World) (tape : Tape) (i : Input), w.os = os ∧ (w.forCall tape i).Shaped C.prog ∧ i.vars = [] ∧ Input.okWide C.prog (w.forCall tape i) .any w.heap.size f i ∧
      ((s.pre enc C.prog fn [] false (w.forCall tape i).memory i.args ∧ laidMetH C.prog L (w.forCall tape i).memory) ∧ sizedMet enc C.prog fn (OpenSpec.ofChange s) false (w.forCall tape i).memory i.args) ∧ ({} : Assume).holds C.prog (lone (Frame.enter C.prog f i.args .normal) [] (w.forCall tape i)))
    (contract : ∀ (W : World) (base : Nat) (args : Array Value) (ds : List (DataW H)) (ps : List MemPlace), laidMetH C.prog L W →
      (∀ (j : Nat) t v, fn.params[j]? = some t → args[j]? = some v → Value.okWide C.prog W .any base t v) → DataW.TrodAll enc C.prog W 0 (fun _ => true) true fn.params.toList args.toList ds ps →
      Calls C.prog f args W fun e W' => e = .returned (.bool true) ∧ Below W.heap.size W W') :
    ReturnsInHanded {} C os f .any (fun w args => (s.pre enc C.prog fn [] false w args ∧ laidMetH C.prog L w) ∧ sizedMet enc C.prog fn (OpenSpec.ofChange s) false w args) (s.post enc C.prog fn false true false false) := by
  refine returnsInHanded_of_change_and (X := fun w _ => laidMetH C.prog L w) (fun _ _ _ hh h => h.of_heap hh) own started noInit hfn witness ?_
  intro W base args ds gs before hval hW _ _ hL _
  have hW' := hW
  obtain ⟨p, q, hA, hV, rfl, hfz, hnd⟩ := hW
  rw [hvars] at hV
  obtain ⟨rfl, rfl⟩ := trodVars_none hV
  refine (contract W base args ds p hL hval hA).mono fun e W' ⟨he, hw⟩ => ⟨_, he, ?_⟩
  have hlen : ds.length = fn.params.size := by rw [trodAll_len hA]; simp
  have hsp : s.fn H (ds ++ []) = { results := [.lit (.bool true)], args := ds } := by rw [List.append_nil]; exact hspec ds hlen
  refine post_of_below (pa := p) (pv := []) hW' ?_ ?_ ?_ rfl hw ?_
  · intro b sp hd
    rw [hsp, hres]
    exact trodAll_mk1 ⟨1, by simp [DataW.trod, hb, Value.cells]⟩
  · intro sp hp
    rw [hsp]
    have hlt : ∀ x ∈ p, x.block < W.heap.size := fun x hx => hW'.lt x (by simp [hx])
    exact trodAll_stays laid hread hA (fun x hx => hw.same (hlt x hx)) (fun x hx => hp x (by simp [hx]))
  · intro sp _
    rw [hsp, hvars]
    exact rfl
  · exact ok_one hres rfl (by simp [Value.okWide, hb, Cell.okWide, Cell.ok])
end

/-- A library function of values without addresses, known by its contract; 'GLok': what it may ask of the variables of packages. -/
theorem lib_sound {f : Nat} {F : List Value → Option Value} (hF : ∀ args r, F args = some r → args.all flat = true ∧ flat r = true)
    (h : ∀ args r W, F args = some r → GLok W → Calls P f ⟨args⟩ W fun e W' => e = .returned r ∧ Keeps W W') : SoundQ P f (flatSem F) := by
  intro args H nb K hk
  unfold flatSem optK at hk
  cases e : F args with
  | none => rw [e] at hk; exact hk.elim
  | some r =>
    rw [e] at hk
    obtain ⟨h1, h2⟩ := hF args r e
    refine ⟨r, hk, h2, fun Fb β W argsC R ha => ?_⟩
    obtain rfl := flats_eq ha h1
    exact h _ r W e R.floor.glok

/-- The same of one that reads slices. -/
theorem libD_sound {f : Nat} {F : List DV → Option (List DV)} (hF : ∀ ds rs, F ds = some rs → ∃ x, rs = [.v x] ∧ flat x = true)
    (h : ∀ ds x vs (W : World) (β : Be) (Hh : Hp) (nb : Nat), F ds = some [.v x] → GLok W → ArgsOk β Hh nb W ds vs → Calls P f ⟨vs⟩ W fun e W' => e = .returned x ∧ Keeps W W') : SoundW P f (deepSem F) := by
  intro args H nb K hk Fb β W argsC R ha
  obtain ⟨ds, hk, hds⟩ := argsK_out R ha hk
  obtain ⟨rs, e, hk⟩ := hk
  obtain ⟨x, rfl, hx⟩ := hF ds rs e
  refine (h ds x argsC W β H nb e R.floor.glok hds).mono ?_
  rintro e' W' ⟨rfl, kp⟩
  exact ⟨x, H, nb, nb, β, x, hk, rfl, flat_refl hx, R.keep kp, kp.size, fun j hj _ => kp.heap j hj, fun b hb => .inl ⟨hb, rfl⟩, Nat.le_refl _, Ext.refl _ _ _, kp.same⟩

end Go.Eng
