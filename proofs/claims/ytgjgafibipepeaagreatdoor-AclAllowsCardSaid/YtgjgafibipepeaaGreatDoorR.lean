import Derived.Test.YtgjgafibipepeaaGreatDoorZ
import Derived.Test.YtgjgafibipepeaaGreatDoorQa
import Derived.HandedShaped
import Derived.SizedLaws
namespace Go.Proofs.YtgjgafibipepeaaGreatDoor.Q
open Go.RowKit Go.Lib
set_option linter.unusedVariables false
set_option linter.constructorNameAsVariable false
/-- THE WRAP that hands the contract both what the row lists and the world's shape -/
theorem returns_listed_shaped {H : Type} {enc : TypeId × Value → H} {a : Assume} {C : Checked} {os : Os} {f : FuncId} {fn : Func} {s : ChangeSpec} {conds : List PathCond} {apart fresh handsOn again : Bool} {X : World → Array Value → Prop}
    (hX : ∀ (w w' : World) (args : Array Value), w.heap = w'.heap → X w args → X w' args)
    (own : ownKnob C.prog.godebug = none) (started : os.Started) (noInit : C.prog.inits.idxOf? f = none) (hfn : C.prog.funcs[f]? = some fn)
    (witness : ∃ (w : World) (tape : Tape) (i : Input), w.os = os ∧ (w.forCall tape i).Shaped C.prog ∧ i.vars = [] ∧ Input.okWide C.prog (w.forCall tape i) .any w.heap.size f i ∧
      ((s.pre enc C.prog fn conds apart (w.forCall tape i).memory i.args ∧ X (w.forCall tape i).memory i.args) ∧ sizedMet enc C.prog fn (OpenSpec.ofChange s) apart (w.forCall tape i).memory i.args) ∧ a.holds C.prog (lone (Frame.enter C.prog f i.args .normal) [] (w.forCall tape i)))
    (contract : ∀ (W : World) (base : Nat) (args : Array Value) (ds gs : List (DataW H)) (before : List MemPlace),
      (∀ (j : Nat) t v, fn.params[j]? = some t → args[j]? = some v → Value.okWide C.prog W .any base t v) →
      DataW.Whole enc C.prog fn.params.toList s.vars apart W args.toList ds gs before →
      conds.all (PathCond.test C.prog ⟨fn.params.toList, ds, s.plain.varTypes C.prog, gs⟩) = true →
      (DataW.weightsEach C.prog (fn.params.toList ++ s.plain.varTypes C.prog) (ds ++ gs)).all (· ≤ reachBytes) = true → X W args → W.ShapedOpen C.prog →
      a.holds C.prog (lone (Frame.enter C.prog f args .normal) [] W) →
      Calls C.prog f args W fun e W' => ∃ v, e = .returned v ∧ s.post enc C.prog fn apart fresh handsOn again W args v W') :
    ReturnsInHanded a C os f .any (fun w args => (s.pre enc C.prog fn conds apart w args ∧ X w args) ∧ sizedMet enc C.prog fn (OpenSpec.ofChange s) apart w args) (s.post enc C.prog fn apart fresh handsOn again) := by
  refine returnsInHanded_of_calls own started noInit witness ?_
  intro w tape i _ hsh _ hok hpre hholds
  obtain ⟨_, _, _, fn', hfn', _, _, _, _, hval⟩ := hok
  have e : fn' = fn := Option.some.inj (hfn'.symm.trans hfn)
  subst e
  obtain ⟨⟨⟨ds, gs, before, hw, hc⟩, hx⟩, hz⟩ := hpre
  have hw' := DataW.Whole.of_heap (w' := w.forCall tape i) (by rfl) hw
  refine (contract (w.forCall tape i) w.heap.size i.args ds gs before hval hw' hc (hz.weights hw) (hX _ _ _ (by rfl) hx) hsh hholds).mono fun e W' ⟨v, he, hp⟩ => ?_
  subst he
  exact ChangeSpec.post_blind hp
theorem quad_of (cs : Array Value) (n0 n1 n2 n3 : Nat) (hs : cs.size = 4) (h0 : cs[0]'(by omega) = byteV n0) (h1 : cs[1]'(by omega) = byteV n1) (h2 : cs[2]'(by omega) = byteV n2) (h3 : cs[3]'(by omega) = byteV n3) :
    Value.agg cs = quadV (n0, n1, n2, n3) := by
  unfold quadV
  congr 1
  apply Array.ext
  · simp [hs]
  · intro i g1 g2
    have : i = 0 ∨ i = 1 ∨ i = 2 ∨ i = 3 := by simp at g2; omega
    rcases this with rfl | rfl | rfl | rfl <;> simp [h0, h1, h2, h3]
/-- a quad that came in -/
theorem quad_opened {W : World} {base : Nat} {v : Value} (h : Value.okWide Tryz.prog W .any base 193 v) : ∃ p : Quad, v = quadV p ∧ small p := by
  simp only [Value.okWide, Tryz.underlying193] at h
  obtain ⟨cs, rfl, hs, ts, hts, _, hall⟩ := h
  have h4 : Tryz.prog.cellsOf 193 = 4 := by kernel_rfl
  have ht : Tryz.prog.cellTypes Tryz.prog.depth 193 = some [5, 5, 5, 5] := by kernel_rfl
  obtain rfl := Option.some.inj (ht.symm.trans hts)
  rw [h4] at hs
  have one : ∀ i, (h : i < 4) → ∃ n : Nat, cs[i]'(by omega) = byteV n ∧ n ≤ 255 := by
    intro i hi
    obtain ⟨u, hu, hok⟩ := hall i (cs[i]'(by omega)) (by simp [hs, hi])
    have hm : i % [5, 5, 5, 5].length = i := Nat.mod_eq_of_lt hi
    have e : u = 5 := by
      rw [hm] at hu
      have : i = 0 ∨ i = 1 ∨ i = 2 ∨ i = 3 := by omega
      rcases this with rfl | rfl | rfl | rfl <;> exact (Option.some.inj hu).symm
    subst e
    generalize cs[i]'(by omega) = x at hok
    cases x <;> simp [Cell.okWide, Cell.ok, Tryz.underlying5] at hok
    rename_i k n
    obtain ⟨rfl, hb⟩ := hok
    have hb' : 0 ≤ n ∧ n ≤ 255 := by simpa [IntKind.has, IntKind.min, IntKind.max, IntKind.signed, IntKind.bits] using hb
    exact ⟨n.toNat, by simp [byteV]; omega, by omega⟩
  have e0 := one 0 (by omega)
  have e1 := one 1 (by omega)
  have e2 := one 2 (by omega)
  have e3 := one 3 (by omega)
  clear one hall hts ht h4
  obtain ⟨n0, h0, l0⟩ := e0
  obtain ⟨n1, h1, l1⟩ := e1
  obtain ⟨n2, h2, l2⟩ := e2
  obtain ⟨n3, h3, l3⟩ := e3
  exact ⟨(n0, n1, n2, n3), quad_of cs n0 n1 n2 n3 hs h0 h1 h2 h3, l0, l1, l2, l3⟩
end Go.Proofs.YtgjgafibipepeaaGreatDoor.Q
