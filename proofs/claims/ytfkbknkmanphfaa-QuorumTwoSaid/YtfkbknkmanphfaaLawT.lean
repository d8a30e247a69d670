/-
Proved: QuorumTwo answers true for every input and leaves its arguments as they read.
Conditions: none beyond the given statement's own.
-/
import Derived.Test.YtfkbknkmanphfaaRows
import Derived.Test.YtfkbknkmanphfaaT
import Derived.Deep.Slices
import Derived.Deep.Fields
import Derived.WalkKit
import Derived.ProofKit
import Derived.OpenShut
import Derived.ShutString
import Derived.ChangeOld
import Derived.Below
import Derived.SizedLaws
import Derived.Lib.SmallJoins
namespace Go.Proofs.Ytfkbknkmanphfaa.quorumTwo
open Go.ChangeShapes Go.WideShapes Go.ChangeAt Go.RowKit Go.Joins
open Go.Proofs.Ytfkbknkmanphfaa.Q
set_option linter.unusedVariables false
theorem own : ownKnob Try.prog.godebug = none := by kernel_rfl
theorem laidOut : laidOutB Try.prog = true := by kernel_rfl
/-- A slice of ints among the arguments. -/
theorem open_rd {H : Type} {enc : TypeId × Value → H} {W : World} {base : Nat} {spare : Nat → Bool} {held : Bool} {n : Nat} {c : Value} {y : DataW H × List MemPlace} (h : DataW.trod enc Try.prog W base spare held n 22 [c] = some y) :
    ∃ A len cap, ∃ xs : List Int, c = .slice A len cap ∧ xs.length = len ∧ Rd W A xs := by
  rcases open_ints Try.underlying22 Try.underlying3 (by kernel_rfl) h with ⟨hcs, _⟩ | ⟨x, l, cp, zs, hcs, _, hl, hm, hz, _, hcell, hwz⟩
  · exact ⟨none, 0, 0, [], by simpa using hcs, rfl, by simp [Rd]⟩
  · have hle : l ≤ zs.length := by rw [hz]; split <;> omega
    refine ⟨some x, l, cp, zs.take l, by simpa using hcs, by simp; omega, ?_⟩
    unfold maxLen at hm
    refine ⟨by simp; omega, fun hp => ⟨x, rfl, fun i hi => ?_⟩⟩
    have hi2 : i < l := by simp at hi; omega
    rw [hcell i (by omega)]
    simp [List.getD_eq_getElem?_getD, hi2]
theorem spot_of_cell {w : World} {a : Addr} {v : Value} (h : w.cell? a = some v) : a = ⟨a.block, a.off, none⟩ := by
  obtain ⟨b, o, s⟩ := a
  unfold World.cell? at h
  split at h
  · cases s with
    | none => rfl
    | some x => simp at h
  · simp at h
/-- A slice of Puts among the arguments. -/
theorem open_puts {H : Type} {enc : TypeId × Value → H} {W : World} {base : Nat} {spare : Nat → Bool} {held : Bool} {n : Nat} {c : Value} {y : DataW H × List MemPlace} (h : DataW.trod enc Try.prog W base spare held n 23 [c] = some y) :
    ∃ A len cap, ∃ ps : List Pt, c = .slice A len cap ∧ ps.length = len ∧ RdP W A ps ∧ PtsOk ps := by
  rcases Go.Deep.open_slice Try.underlying23 h with ⟨hcs, _⟩ | ⟨a, l, cp, m, n, D, Pl, hcs, _, hl, hm, hmm, _, hi⟩
  · exact ⟨none, 0, 0, [], by simpa using hcs, rfl, ⟨by simp, by simp⟩, by intro i hi; simp at hi⟩
  · have hle : l ≤ m := by rw [hmm]; split <;> omega
    have h3 : Program.cellsOf Try.prog 46 = 3 := by kernel_rfl
    have key : ∀ i, i < l → ∃ p : Pt, W.cell? (a.add (i * 3)) = some (.int .i8 p.s) ∧ W.cell? ((a.add (i * 3)).add 1) = some (.int .u32 p.e) ∧ W.cell? ((a.add (i * 3)).add 2) = some (.int .u32 p.n) ∧ -128 ≤ p.s ∧ p.s ≤ 127 := fun i hil => by
      obtain ⟨cs, hc, ht⟩ := hi i (by omega)
      rw [h3] at hc
      obtain ⟨_, hlen, hat⟩ := World.cells?_some hc
      obtain ⟨c0, c1, c2, rfl⟩ : ∃ a b c, cs = [a, b, c] := by
        match cs, hlen with
        | [a, b, c], _ => exact ⟨a, b, c, rfl⟩
      obtain ⟨ys, k, _, hy, _, hyl, hf⟩ := DataW.trod_struct Try.underlying46 ht
      obtain ⟨y0, y1, rfl⟩ : ∃ a b, ys = [a, b] := by
        match ys, hyl with
        | [a, b], _ => exact ⟨a, b, rfl⟩
      have g0 := hf 0 _ rfl
      have g1 := hf 1 _ rfl
      have g0 : DataW.trod enc Try.prog W base spare held k 41 [c0] = some y0 := g0
      have g1 : DataW.trod enc Try.prog W base spare held k 44 [c1, c2] = some y1 := g1
      obtain ⟨s, es, _, ws⟩ := DataW.trod_int Try.underlying41 g0
      obtain ⟨zs, k2, _, hz, _, hzl, hzf⟩ := DataW.trod_struct Try.underlying44 g1
      obtain ⟨z0, z1, rfl⟩ : ∃ a b, zs = [a, b] := by
        match zs, hzl with
        | [a, b], _ => exact ⟨a, b, rfl⟩
      have q0 : DataW.trod enc Try.prog W base spare held k2 42 [c1] = some z0 := hzf 0 _ rfl
      have q1 : DataW.trod enc Try.prog W base spare held k2 42 [c2] = some z1 := hzf 1 _ rfl
      obtain ⟨e, ee, _, we⟩ := DataW.trod_int Try.underlying42 q0
      obtain ⟨n, en, _, wn⟩ := DataW.trod_int Try.underlying42 q1
      have b0 := bounds_i8 ws
      refine ⟨⟨s, e, n⟩, ?_, ?_, ?_, b0.1, b0.2⟩
      · have := hat 0 (by omega)
        rw [show (a.add (i * 3)).add 0 = a.add (i * 3) from rfl] at this
        rw [this]; simpa using es
      · rw [hat 1 (by omega)]; simpa using ee
      · rw [hat 2 (by omega)]; simpa using en
    refine ⟨some a, l, cp, (List.range l).map (fun i => if h : i < l then (key i h).choose else ⟨0, 0, 0⟩), by simpa using hcs, by simp, ?_, ?_⟩
    · unfold maxLen at hm
      refine ⟨by simp; omega, fun hp => ?_⟩
      simp only [List.length_map, List.length_range] at hp
      obtain ⟨p0, k0, _⟩ := key 0 hp
      have hs : a = ⟨a.block, a.off, none⟩ := spot_of_cell (v := .int .i8 p0.s) (by rw [← k0]; rfl)
      refine ⟨a.block, a.off, by rw [← hs], fun i hi => ?_⟩
      simp only [List.length_map, List.length_range] at hi
      have hc := (key i hi).choose_spec
      have hg : ((List.range l).map (fun i => if h : i < l then (key i h).choose else (⟨0, 0, 0⟩ : Pt))).getD i ⟨0, 0, 0⟩ = (key i hi).choose := by
        simp [List.getD_eq_getElem?_getD, hi]
      rw [hg]
      generalize (key i hi).choose = z at hc ⊢
      have e0 : a.add (i * 3) = ⟨a.block, a.off + i * 3, none⟩ := by
        rw [hs]; unfold Addr.add; split
        · rename_i h; rw [h]; rfl
        · rfl
      have e1 : ∀ j, (⟨a.block, a.off + i * 3, none⟩ : Addr).add j = ⟨a.block, a.off + i * 3 + j, none⟩ := fun j => by
        unfold Addr.add; split
        · rename_i h; rw [h]; rfl
        · rfl
      rw [e0, e1, e1] at hc
      exact ⟨hc.1, hc.2.1, hc.2.2.1⟩
    · intro i hi
      simp only [List.length_map, List.length_range] at hi
      have hg : ((List.range l).map (fun i => if h : i < l then (key i h).choose else (⟨0, 0, 0⟩ : Pt))).getD i ⟨0, 0, 0⟩ = (key i hi).choose := by
        simp [List.getD_eq_getElem?_getD, hi]
      rw [hg]
      exact (key i hi).choose_spec.2.2.2
set_option maxRecDepth 100000 in
theorem lifted (os : Os) (started : os.Started) (H : Type) (enc : TypeId × Value → H) :
    ReturnsInHanded {} Try.checked os 3 .any (Rows.quorumTwoSpec.pre6 enc Try.prog Try.f3 Rows.quorumTwoRow.domain false) (Rows.quorumTwoSpec.post enc Try.prog Try.f3 false true false false) := by
  refine returnsInHanded_of_change_sized (C := Try.checked) own started (by kernel_rfl) Try.func3
    (ChangeSpec.witness6 (enc := enc) (C := Try.checked) false ⟨#[], #[.agg #[.slice none 0 0, .slice none 0 0, .slice none 0 0, .slice none 0 0]], []⟩ 8 (by kernel_rfl) (by kernel_rfl) (by kernel_rfl) (by kernel_rfl)) ?_
  intro W base args ds gs before hval0 hW hcnd hsz0 _
  have hval : ∀ (j : Nat) t v, Try.f3.params[j]? = some t → args[j]? = some v → Value.okWide Try.prog W .any base t v := hval0
  have hW' := hW
  obtain ⟨p, q, hA0, hV, rfl, hfz, hnd⟩ := hW
  have hA : DataW.TrodAll enc Try.prog W 0 (fun _ => true) true Try.f3.params.toList args.toList ds p := hA0
  rw [Try.params3] at hA hval
  obtain ⟨v0, vs0, d0, ds0, p0, q0, hargs, rfl, rfl, h0, r0⟩ := trodAll_cons hA
  obtain ⟨rfl, rfl, rfl⟩ := trodAll_nil r0
  obtain rfl : args = #[v0] := by cases args; simp_all
  obtain ⟨rfl, rfl⟩ := trodVars_none hV
  have k0 := h0
  have lt0 : ∀ x ∈ p0, x.block < W.heap.size := by obtain ⟨m, hm⟩ := k0; exact DataW.trod_lt m _ _ _ hm
  have back : ∀ W', Below W.heap.size W W' → DataW.Trod enc Try.prog W' 0 (fun b => decide (b < W.heap.size)) true 25 v0 d0 p0 := fun W' bel => Below.trod laidOut (by kernel_rfl) (of_decide_eq_true (by kernel_rfl)) k0 bel lt0
  obtain ⟨c0, c1, c2, c3, y0, y1, y2, y3, n, hv0, hd0, hp0, hy0, hy1, hy2, hy3⟩ := open_agg4 Try.underlying25 (by kernel_rfl) (by kernel_rfl) (hval 0 25 v0 rfl rfl) h0
  obtain ⟨Aw, lw, cw, ws, hc0, hlw, hRw⟩ := open_rd hy0
  obtain ⟨Ag, lg, cg, gs', hc1, hlg, hRg⟩ := open_rd hy1
  obtain ⟨A1, l1, k1, ps1, hc2, hl1, hR1, hok1⟩ := open_puts hy2
  obtain ⟨A2, l2, k2, ps2, hc3, hl2, hR2, hok2⟩ := open_puts hy3
  clear hA0 hval0 hsz0
  have walk : Calls Try.prog 3 #[v0] W fun e w' => e = .returned (.bool true) ∧ Below W.heap.size W w' := by
    rw [hv0, hc0, hc1, hc2, hc3, ← hlw, ← hlg, ← hl1, ← hl2]
    by_cases hl : 2147483647 ≤ ws.length ∨ 2147483647 ≤ gs'.length ∨ 2147483647 ≤ ps1.length ∨ 2147483647 ≤ ps2.length
    · exact two_long Aw Ag A1 A2 cw cg k1 k2 ws gs' ps1 ps2 W hRw.1 hRg.1 hR1.1 hR2.1 hl
    · by_cases hv : Valid ws gs'
      · exact two_yes Aw Ag A1 A2 cw cg k1 k2 ws gs' ps1 ps2 W hRw hRg hR1 hR2 hok1 hok2 (by omega) (by omega) (by omega) (by omega) hv
      · exact two_no Aw Ag A1 A2 cw cg k1 k2 ws gs' ps1 ps2 W hRw hRg (by omega) (by omega) (by omega) (by omega) hv
  refine walk.mono fun e W' ⟨he, bel⟩ => ?_
  subst he
  exact ⟨_, rfl, _, _, _, [], _, [], hW', trodAll_mk1 (shut_bool Try.underlying4 _), (trodAll_cons_mk (back W' bel) trodAll_mk0), rfl, bel.frame _, fun h => by cases h⟩
theorem over : Rows.quorumTwoRow.holds Try.pinned (OpenSpec.ofChange Rows.quorumTwoSpec) :=
  OpenClaim.holds_of_wide 3 Try.f3 rfl rfl rfl rfl rfl rfl rfl ⟨rfl, rfl, rfl, rfl, rfl⟩ rfl rfl rfl rfl rfl (by kernel_rfl) Try.func3 (by kernel_rfl)
    (of_decide_eq_true (by kernel_rfl)) (by unfold Func.isWrapper; first | (rw [if_pos (by decide +kernel)]; kernel_rfl) | (rw [if_neg (by decide +kernel)]; exact ⟨rfl, rfl⟩))
    (fun os started H enc _ => lifted os started H enc)
theorem proved : Rows.QuorumTwoSaid := over
#print axioms proved
end Go.Proofs.Ytfkbknkmanphfaa.quorumTwo
namespace Go.Proofs.Ytfkbknkmanphfaa
/-- The row, under a short name, for the claim. -/
theorem quorumTwo_holds : Rows.QuorumTwoSaid := quorumTwo.proved
end Go.Proofs.Ytfkbknkmanphfaa
