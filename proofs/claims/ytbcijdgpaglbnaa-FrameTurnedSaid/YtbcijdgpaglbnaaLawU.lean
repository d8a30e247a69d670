/-
Proved: FrameTurned answers true for every input and leaves its arguments as they read.
Conditions: none beyond the given statement's own.
-/
import Derived.Test.YtbcijdgpaglbnaaRows
import Derived.Test.YtbcijdgpaglbnaaU
import Derived.Deep.Matrix
import Derived.WalkKit
import Derived.ProofKit
import Derived.OpenShut
import Derived.ShutString
import Derived.ChangeOld
import Derived.Below
import Derived.SizedLaws
import Derived.Lib.SmallJoins
namespace Go.Proofs.Ytbcijdgpaglbnaa.frameTurned
open Go.ChangeShapes Go.WideShapes Go.ChangeAt Go.RowKit Go.Joins
open Go.Proofs.Ytbcijdgpaglbnaa.Q
set_option linter.unusedVariables false
theorem own : ownKnob Try.prog.godebug = none := by kernel_rfl
theorem laidOut : laidOutB Try.prog = true := by kernel_rfl
/-- A slice of slices of bytes among the arguments. -/
theorem open_bs {H : Type} {enc : TypeId × Value → H} {W : World} {base : Nat} {n : Nat} {c : Value} {y : DataW H × List MemPlace} (h : DataW.trod enc Try.prog W base (fun _ => true) true n 22 [c] = some y) :
    ∃ A len cap, ∃ (Ls : List (List Nat)) (f : Nat → Option Addr × Nat), c = .slice A len cap ∧ Ls.length = len ∧ RdBs W A Ls f ∧ ∀ i, Bytes (Ls.getD i []) := by
  rcases Go.Deep.open_int_rows Try.underlying22 Try.underlying25 Try.underlying5 (by kernel_rfl) (by kernel_rfl) h with ⟨hcs, _⟩ | ⟨a, l, cp, A, L, C, Z, hcs, _, hl, hm, _, hx⟩
  · exact ⟨none, 0, 0, [], fun _ => (none, 0), by simpa using hcs, rfl, ⟨by simp, fun h => by simp at h⟩, fun i j => by simp⟩
  · unfold maxLen at hm
    have hget : ∀ i, i < l → ((List.range l).map (fun r => ((Z r).take (L r)).map Int.toNat)).getD i [] = ((Z i).take (L i)).map Int.toNat := fun i hi => by simp [List.getD_eq_getElem?_getD, hi]
    have hlen : ∀ i, i < l → (((Z i).take (L i)).map Int.toNat).length = L i := fun i hi => by
      obtain ⟨_, h1, _, h2, _⟩ := hx i (by omega)
      simp; omega
    refine ⟨some a, l, cp, (List.range l).map (fun r => ((Z r).take (L r)).map Int.toNat), fun i => (A i, C i), by simpa using hcs, by simp, ⟨by simp; omega, fun hp => ?_⟩, fun i j => ?_⟩
    · have hp' : 0 < l := by simpa using hp
      have h0 := (hx 0 (by omega)).1
      obtain ⟨b, o, spot⟩ := a
      have hspot : spot = none := by simpa [Addr.add] using World.cell?_spot h0
      subst hspot
      refine ⟨b, o, rfl, fun i hi => ?_⟩
      have hi' : i < l := by simpa using hi
      obtain ⟨c1, c2, c3, c4, c5, c6, c7⟩ := hx i (by omega)
      unfold maxLen at c3
      rw [hget i hi']
      refine ⟨by rw [hlen i hi']; rw [Addr.add_mid] at c1; exact c1, by rw [hlen i hi']; omega, fun hp2 => ?_⟩
      rw [hlen i hi'] at hp2
      cases hA : A i with
      | none => have := c6 hA; omega
      | some a' =>
        have c8 := (c7 a' hA).2
        have g0 := c8 0 (by omega)
        obtain ⟨b', o', spot'⟩ := a'
        have hspot' : spot' = none := by simpa [Addr.add] using World.cell?_spot g0
        subst hspot'
        refine ⟨b', o', hA, fun j hj => ?_⟩
        rw [hlen i hi'] at hj
        have g := c8 j (by omega)
        have hz : (Z i)[j]? = some ((Z i).getD j 0) := by simp [List.getD_eq_getElem?_getD, List.getElem?_eq_getElem (show j < (Z i).length by omega)]
        have hw := bounds_u8 (c5 _ (List.mem_of_getElem? hz))
        have e : (((Z i).take (L i)).map Int.toNat).getD j 0 = ((Z i).getD j 0).toNat := by
          simp [List.getD_eq_getElem?_getD, hj, List.getElem?_eq_getElem (show j < (Z i).length by omega)]
        rw [e, Int.toNat_of_nonneg (by omega)]
        rw [Addr.add_mid] at g; exact g
    · by_cases hi : i < l
      · rw [hget i hi]
        obtain ⟨c1, c2, c3, c4, c5, c6, c7⟩ := hx i (by omega)
        by_cases hj : j < L i
        · have hz : (Z i)[j]? = some ((Z i).getD j 0) := by simp [List.getD_eq_getElem?_getD, List.getElem?_eq_getElem (show j < (Z i).length by omega)]
          have hw := bounds_u8 (c5 _ (List.mem_of_getElem? hz))
          have e : (((Z i).take (L i)).map Int.toNat).getD j 0 = ((Z i).getD j 0).toNat := by
            simp [List.getD_eq_getElem?_getD, hj, List.getElem?_eq_getElem (show j < (Z i).length by omega)]
          rw [e]; omega
        · have e : (((Z i).take (L i)).map Int.toNat).getD j 0 = 0 := by
            rw [List.getD_eq_getElem?_getD, List.getElem?_eq_none (by rw [hlen i hi]; omega)]; rfl
          rw [e]; omega
      · have e : ((List.range l).map (fun r => ((Z r).take (L r)).map Int.toNat)).getD i [] = [] := by simp [List.getD_eq_getElem?_getD, hi]
        rw [e]; simp
set_option maxRecDepth 100000 in
theorem lifted (os : Os) (started : os.Started) (H : Type) (enc : TypeId × Value → H) :
    ReturnsInHanded {} Try.checked os 4 .any (Rows.frameTurnedSpec.pre6 enc Try.prog Try.f4 Rows.frameTurnedRow.domain false) (Rows.frameTurnedSpec.post enc Try.prog Try.f4 false true false false) := by
  refine returnsInHanded_of_change_sized (C := Try.checked) own started (by kernel_rfl) Try.func4
    (ChangeSpec.witness6 (enc := enc) (C := Try.checked) false ⟨#[], #[.slice none 0 0, .int .i64 0, .int .u8 0], []⟩ 8 (by kernel_rfl) (by kernel_rfl) (by kernel_rfl) (by kernel_rfl)) ?_
  intro W base args ds gs before hval0 hW hcnd hsz0 _
  have hval : ∀ (j : Nat) t v, Try.f4.params[j]? = some t → args[j]? = some v → Value.okWide Try.prog W .any base t v := hval0
  have hW' := hW
  obtain ⟨p, q, hA0, hV, rfl, hfz, hnd⟩ := hW
  have hA : DataW.TrodAll enc Try.prog W 0 (fun _ => true) true Try.f4.params.toList args.toList ds p := hA0
  rw [Try.params4] at hA hval
  obtain ⟨v0, vs0, d0, ds0, p0, q0, hargs, rfl, rfl, h0, r0⟩ := trodAll_cons hA
  obtain ⟨v1, vs1, d1, ds1, p1, q1, rfl, rfl, rfl, h1, r1⟩ := trodAll_cons r0
  obtain ⟨v2, vs2, d2, ds2, p2, q2, rfl, rfl, rfl, h2, r2⟩ := trodAll_cons r1
  obtain ⟨rfl, rfl, rfl⟩ := trodAll_nil r2
  obtain rfl : args = #[v0, v1, v2] := by cases args; simp_all
  obtain ⟨rfl, rfl⟩ := trodVars_none hV
  obtain ⟨a0, len0, cap0, rfl⟩ := okWide_slice Try.underlying22 (hval 0 22 v0 rfl rfl)
  have k0 := h0
  have lt0 : ∀ x ∈ p0, x.block < W.heap.size := by obtain ⟨m, hm⟩ := k0; exact DataW.trod_lt m _ _ _ hm
  have back0 : ∀ W', Below W.heap.size W W' → DataW.Trod enc Try.prog W' 0 (fun b => decide (b < W.heap.size)) true 22 (.slice a0 len0 cap0) d0 p0 := fun W' bel => Below.trod laidOut (by kernel_rfl) (of_decide_eq_true (by kernel_rfl)) k0 bel lt0
  have k1 := h1
  have lt1 : ∀ x ∈ p1, x.block < W.heap.size := by obtain ⟨m, hm⟩ := k1; exact DataW.trod_lt m _ _ _ hm
  have back1 : ∀ W', Below W.heap.size W W' → DataW.Trod enc Try.prog W' 0 (fun b => decide (b < W.heap.size)) true 3 v1 d1 p1 := fun W' bel => Below.trod laidOut (by kernel_rfl) (of_decide_eq_true (by kernel_rfl)) k1 bel lt1
  have k2 := h2
  have lt2 : ∀ x ∈ p2, x.block < W.heap.size := by obtain ⟨m, hm⟩ := k2; exact DataW.trod_lt m _ _ _ hm
  have back2 : ∀ W', Below W.heap.size W W' → DataW.Trod enc Try.prog W' 0 (fun b => decide (b < W.heap.size)) true 5 v2 d2 p2 := fun W' bel => Below.trod laidOut (by kernel_rfl) (of_decide_eq_true (by kernel_rfl)) k2 bel lt2
  obtain ⟨n, hv1, _, _, wn⟩ := open_int Try.underlying3 (hval 1 3 v1 rfl rfl) h1
  obtain ⟨x, hv2, _, _, wx⟩ := open_int Try.underlying5 (hval 2 5 v2 rfl rfl) h2
  obtain ⟨m0, y0⟩ := id h0
  obtain ⟨A, la, ca, Ls, f, hc0, hla, hR, hB⟩ := open_bs (show DataW.trod enc Try.prog W 0 (fun _ => true) true m0 22 [.slice a0 len0 cap0] = _ from y0)
  have bn := bounds_i64 wn
  have bx := bounds_u8 wx
  clear hA0 hval0 hsz0
  have walk : Calls Try.prog 4 #[.slice a0 len0 cap0, v1, v2] W fun e w' => e = .returned (.bool true) ∧ Below W.heap.size W w' := by
    rw [hv1, hv2, hc0, ← hla]
    obtain ⟨y, rfl⟩ := Int.eq_ofNat_of_zero_le (show 0 ≤ x by omega)
    exact turned_calls A ca Ls f n y W hR hB (by omega) (by omega) (by omega)
  refine walk.mono fun e W' ⟨he, bel⟩ => ?_
  subst he
  exact ⟨_, rfl, _, _, _, [], _, [], hW', trodAll_mk1 (shut_bool Try.underlying4 _), (trodAll_cons_mk (back0 W' bel) (trodAll_cons_mk (back1 W' bel) (trodAll_cons_mk (back2 W' bel) trodAll_mk0))), rfl, bel.frame _, fun h => by cases h⟩
theorem over : Rows.frameTurnedRow.holds Try.pinned (OpenSpec.ofChange Rows.frameTurnedSpec) :=
  OpenClaim.holds_of_wide 4 Try.f4 rfl rfl rfl rfl rfl rfl rfl ⟨rfl, rfl, rfl, rfl, rfl⟩ rfl rfl rfl rfl rfl (by kernel_rfl) Try.func4 (by kernel_rfl)
    (of_decide_eq_true (by kernel_rfl)) (by unfold Func.isWrapper; first | (rw [if_pos (by decide +kernel)]; kernel_rfl) | (rw [if_neg (by decide +kernel)]; exact ⟨rfl, rfl⟩))
    (fun os started H enc _ => lifted os started H enc)
theorem proved : Rows.FrameTurnedSaid := over
#print axioms proved
end Go.Proofs.Ytbcijdgpaglbnaa.frameTurned
namespace Go.Proofs.Ytbcijdgpaglbnaa
/-- The row, under a short name, for the claim. -/
theorem frameTurned_holds : Rows.FrameTurnedSaid := frameTurned.proved
end Go.Proofs.Ytbcijdgpaglbnaa
