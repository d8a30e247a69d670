/-
Proved: SessionEnds answers true for every input and leaves its arguments as they read.
Conditions: none beyond the given statement's own.
-/
import Derived.Test.YtkmpbnicofiehaaRows
import Derived.Test.YtkmpbnicofiehaaT
import Derived.Deep.Slices
import Derived.WalkKit
import Derived.ProofKit
import Derived.OpenShut
import Derived.ShutString
import Derived.ChangeOld
import Derived.Below
import Derived.SizedLaws
import Derived.Lib.SmallJoins
namespace Go.Proofs.Ytkmpbnicofiehaa.sessionEnds
open Go.ChangeShapes Go.WideShapes Go.ChangeAt Go.RowKit Go.Joins
open Go.Proofs.Ytkmpbnicofiehaa.Q
set_option linter.unusedVariables false
theorem own : ownKnob Try.prog.godebug = none := by kernel_rfl
theorem laidOut : laidOutB Try.prog = true := by kernel_rfl
theorem spot_of_cell {w : World} {a : Addr} {v : Value} (h : w.cell? a = some v) : a = ⟨a.block, a.off, none⟩ := by
  obtain ⟨b, o, s⟩ := a
  unfold World.cell? at h
  split at h
  · cases s with
    | none => rfl
    | some x => simp at h
  · simp at h
set_option maxRecDepth 100000 in
/-- A slice of calls among the arguments. -/
theorem open_ops {H : Type} {enc : TypeId × Value → H} {W : World} {base : Nat} {spare : Nat → Bool} {held : Bool} {n : Nat} {c : Value} {y : DataW H × List MemPlace} (h : DataW.trod enc Try.prog W base spare held n 22 [c] = some y) :
    ∃ A len cap, ∃ os : List (Int × Int), c = .slice A len cap ∧ os.length = len ∧ RdO W A os := by
  rcases Go.Deep.open_slice Try.underlying22 h with ⟨hcs, _⟩ | ⟨a, l, cp, m, n, D, Pl, hcs, _, hl, hm, hmm, _, hi⟩
  · exact ⟨none, 0, 0, [], by simpa using hcs, rfl, ⟨by simp, by simp⟩⟩
  · have hle : l ≤ m := by rw [hmm]; split <;> omega
    have h3 : Program.cellsOf Try.prog 32 = 5 := by kernel_rfl
    have key : ∀ i, i < l → ∃ o : Int × Int, W.cell? (a.add (i * 5)) ≠ none ∧ (Lit.int .i64 o.1).wf = true ∧ W.cell? ((a.add (i * 5)).add 2) = some (.int .i64 o.1) ∧ W.cell? ((a.add (i * 5)).add 3) = some (.int .i32 o.2) := fun i hil => by
      obtain ⟨cs, hc, ht⟩ := hi i (by omega)
      rw [h3] at hc
      obtain ⟨_, hlen, hat⟩ := World.cells?_some hc
      obtain ⟨c0, c1, c2, c3, c4, rfl⟩ : ∃ z0 z1 z2 z3 z4, cs = [z0, z1, z2, z3, z4] := by
        match cs, hlen with
        | [z0, z1, z2, z3, z4], _ => exact ⟨z0, z1, z2, z3, z4, rfl⟩
      obtain ⟨ys, k, _, hy, _, hyl, hf⟩ := DataW.trod_struct Try.underlying32 ht
      obtain ⟨y0, y1, y2, y3, y4, rfl⟩ : ∃ z0 z1 z2 z3 z4, ys = [z0, z1, z2, z3, z4] := by
        match ys, hyl with
        | [z0, z1, z2, z3, z4], _ => exact ⟨z0, z1, z2, z3, z4, rfl⟩
      have g2 : DataW.trod enc Try.prog W base spare held k 2 [c2] = some y2 := hf 2 _ rfl
      have g3 : DataW.trod enc Try.prog W base spare held k 21 [c3] = some y3 := hf 3 _ rfl
      obtain ⟨n2, e2, r2⟩ := DataW.trod_int Try.underlying2 g2
      obtain ⟨n3, e3, _⟩ := DataW.trod_int Try.underlying21 g3
      have e2 : c2 = .int .i64 n2 := by simpa using e2
      have e3 : c3 = .int .i32 n3 := by simpa using e3
      have q0 := hat 0 (by omega)
      have q2 := hat 2 (by omega)
      have q3 := hat 3 (by omega)
      refine ⟨(n2, n3), ?_, ?_, ?_, ?_⟩
      · have : (a.add (i * 5)).add 0 = a.add (i * 5) := by unfold Addr.add; split <;> simp_all
        rw [this] at q0
        rw [q0]; simp
      · simpa using r2.2
      · rw [q2]; simp [e2]
      · rw [q3]; simp [e3]
    refine ⟨some a, l, cp, (List.range l).map (fun i => if h : i < l then (key i h).choose else (0, 0)), by simpa using hcs, by simp, ?_⟩
    unfold maxLen at hm
    refine ⟨by simp; omega, fun hp => ?_⟩
    simp only [List.length_map, List.length_range] at hp
    have hs : a = ⟨a.block, a.off, none⟩ := by
      obtain ⟨h0, _⟩ := (key 0 hp).choose_spec
      have e0 : a.add (0 * 5) = a := by unfold Addr.add; split <;> simp_all
      rw [e0] at h0
      obtain ⟨v, hv⟩ := Option.ne_none_iff_exists'.1 h0
      exact spot_of_cell hv
    refine ⟨a.block, a.off, by rw [← hs], fun i hi => ?_⟩
    simp only [List.length_map, List.length_range] at hi
    have hg : ((List.range l).map (fun i => if h : i < l then (key i h).choose else ((0, 0) : Int × Int))).getD i (0, 0) = (key i hi).choose := by
      simp [List.getD_eq_getElem?_getD, hi]
    rw [hg]
    obtain ⟨_, h1, h2, h3⟩ := (key i hi).choose_spec
    obtain ⟨z, hz⟩ : ∃ z, (key i hi).choose = z := ⟨_, rfl⟩
    rw [hz] at h1 h2 h3 ⊢
    rw [hs, Addr.add_mid, Addr.add_mid] at h2 h3
    exact ⟨h1, h2, h3⟩
set_option maxRecDepth 100000 in
theorem lifted (os : Os) (started : os.Started) (H : Type) (enc : TypeId × Value → H) :
    ReturnsInHanded {} Try.checked os 3 .any (Rows.sessionEndsSpec.pre6 enc Try.prog Try.f3 Rows.sessionEndsRow.domain false) (Rows.sessionEndsSpec.post enc Try.prog Try.f3 false true false false) := by
  refine returnsInHanded_of_change_sized (C := Try.checked) own started (by kernel_rfl) Try.func3
    (ChangeSpec.witness6 (enc := enc) (C := Try.checked) false ⟨#[], #[.int .i64 0, .int .i64 0, .int .i64 0, .int .i32 0, .slice none 0 0], []⟩ 8 (by kernel_rfl) (by kernel_rfl) (by kernel_rfl) (by kernel_rfl)) ?_
  intro W base args ds gs before hval0 hW hcnd hsz0 _
  have hval : ∀ (j : Nat) t v, Try.f3.params[j]? = some t → args[j]? = some v → Value.okWide Try.prog W .any base t v := hval0
  have hW' := hW
  obtain ⟨p, q, hA0, hV, rfl, hfz, hnd⟩ := hW
  have hA : DataW.TrodAll enc Try.prog W 0 (fun _ => true) true Try.f3.params.toList args.toList ds p := hA0
  rw [Try.params3] at hA hval
  obtain ⟨v0, vs0, d0, ds0, p0, q0, hargs, rfl, rfl, h0, r0⟩ := trodAll_cons hA
  obtain ⟨v1, vs1, d1, ds1, p1, q1, rfl, rfl, rfl, h1, r1⟩ := trodAll_cons r0
  obtain ⟨v2, vs2, d2, ds2, p2, q2, rfl, rfl, rfl, h2, r2⟩ := trodAll_cons r1
  obtain ⟨v3, vs3, d3, ds3, p3, q3, rfl, rfl, rfl, h3, r3⟩ := trodAll_cons r2
  obtain ⟨v4, vs4, d4, ds4, p4, q4, rfl, rfl, rfl, h4, r4⟩ := trodAll_cons r3
  obtain ⟨rfl, rfl, rfl⟩ := trodAll_nil r4
  obtain rfl : args = #[v0, v1, v2, v3, v4] := by cases args; simp_all
  obtain ⟨rfl, rfl⟩ := trodVars_none hV
  obtain ⟨a4, len4, cap4, rfl⟩ := okWide_slice Try.underlying22 (hval 4 22 v4 rfl rfl)
  have k0 := h0
  have lt0 : ∀ x ∈ p0, x.block < W.heap.size := by obtain ⟨m, hm⟩ := k0; exact DataW.trod_lt m _ _ _ hm
  have back0 : ∀ W', Below W.heap.size W W' → DataW.Trod enc Try.prog W' 0 (fun b => decide (b < W.heap.size)) true 3 v0 d0 p0 := fun W' bel => Below.trod laidOut (by kernel_rfl) (of_decide_eq_true (by kernel_rfl)) k0 bel lt0
  have k1 := h1
  have lt1 : ∀ x ∈ p1, x.block < W.heap.size := by obtain ⟨m, hm⟩ := k1; exact DataW.trod_lt m _ _ _ hm
  have back1 : ∀ W', Below W.heap.size W W' → DataW.Trod enc Try.prog W' 0 (fun b => decide (b < W.heap.size)) true 3 v1 d1 p1 := fun W' bel => Below.trod laidOut (by kernel_rfl) (of_decide_eq_true (by kernel_rfl)) k1 bel lt1
  have k2 := h2
  have lt2 : ∀ x ∈ p2, x.block < W.heap.size := by obtain ⟨m, hm⟩ := k2; exact DataW.trod_lt m _ _ _ hm
  have back2 : ∀ W', Below W.heap.size W W' → DataW.Trod enc Try.prog W' 0 (fun b => decide (b < W.heap.size)) true 2 v2 d2 p2 := fun W' bel => Below.trod laidOut (by kernel_rfl) (of_decide_eq_true (by kernel_rfl)) k2 bel lt2
  have k3 := h3
  have lt3 : ∀ x ∈ p3, x.block < W.heap.size := by obtain ⟨m, hm⟩ := k3; exact DataW.trod_lt m _ _ _ hm
  have back3 : ∀ W', Below W.heap.size W W' → DataW.Trod enc Try.prog W' 0 (fun b => decide (b < W.heap.size)) true 21 v3 d3 p3 := fun W' bel => Below.trod laidOut (by kernel_rfl) (of_decide_eq_true (by kernel_rfl)) k3 bel lt3
  have k4 := h4
  have lt4 : ∀ x ∈ p4, x.block < W.heap.size := by obtain ⟨m, hm⟩ := k4; exact DataW.trod_lt m _ _ _ hm
  have back4 : ∀ W', Below W.heap.size W W' → DataW.Trod enc Try.prog W' 0 (fun b => decide (b < W.heap.size)) true 22 (.slice a4 len4 cap4) d4 p4 := fun W' bel => Below.trod laidOut (by kernel_rfl) (of_decide_eq_true (by kernel_rfl)) k4 bel lt4
  obtain ⟨a, hv0, _, _, wa⟩ := open_int Try.underlying3 (hval 0 3 v0 rfl rfl) h0
  obtain ⟨ah, hv1, _, _, wah⟩ := open_int Try.underlying3 (hval 1 3 v1 rfl rfl) h1
  obtain ⟨i, hv2, _, _, wi⟩ := open_int Try.underlying2 (hval 2 2 v2 rfl rfl) h2
  obtain ⟨t, hv3, _, _, wt⟩ := open_int Try.underlying21 (hval 3 21 v3 rfl rfl) h3
  obtain ⟨m1, y1⟩ := id h4
  obtain ⟨A, la, ca, l, hc1, hla, hRa⟩ := open_ops (show DataW.trod enc Try.prog W 0 (fun _ => true) true m1 22 [.slice a4 len4 cap4] = _ from y1)
  clear hA0 hval0 hsz0
  have walk : Calls Try.prog 3 #[v0, v1, v2, v3, .slice a4 len4 cap4] W fun e w' => e = .returned (.bool true) ∧ Below W.heap.size W w' := by
    rw [hv0, hv1, hv2, hv3, hc1, ← hla]
    exact sessionEnds_calls a ah i t A ca l W hRa wi
  refine walk.mono fun e W' ⟨he, bel⟩ => ?_
  subst he
  exact ⟨_, rfl, _, _, _, [], _, [], hW', trodAll_mk1 (shut_bool Try.underlying4 _), (trodAll_cons_mk (back0 W' bel) (trodAll_cons_mk (back1 W' bel) (trodAll_cons_mk (back2 W' bel) (trodAll_cons_mk (back3 W' bel) (trodAll_cons_mk (back4 W' bel) trodAll_mk0))))), rfl, bel.frame _, fun h => by cases h⟩
theorem over : Rows.sessionEndsRow.holds Try.pinned (OpenSpec.ofChange Rows.sessionEndsSpec) :=
  OpenClaim.holds_of_wide 3 Try.f3 rfl rfl rfl rfl rfl rfl rfl ⟨rfl, rfl, rfl, rfl, rfl⟩ rfl rfl rfl rfl rfl (by kernel_rfl) Try.func3 (by kernel_rfl)
    (of_decide_eq_true (by kernel_rfl)) (by unfold Func.isWrapper; first | (rw [if_pos (by decide +kernel)]; kernel_rfl) | (rw [if_neg (by decide +kernel)]; exact ⟨rfl, rfl⟩))
    (fun os started H enc _ => lifted os started H enc)
theorem proved : Rows.SessionEndsSaid := over
#print axioms proved
end Go.Proofs.Ytkmpbnicofiehaa.sessionEnds
namespace Go.Proofs.Ytkmpbnicofiehaa
/-- The row, under a short name, for the claim. -/
theorem sessionEnds_holds : Rows.SessionEndsSaid := sessionEnds.proved
end Go.Proofs.Ytkmpbnicofiehaa
