/-
Proved: CacheRings answers true for every input and leaves its arguments as they read.
Conditions: none beyond the given statement's own.
-/
import Derived.Test.YteajaakhdnlpeaaRows
import Derived.Test.YteajaakhdnlpeaaK
import Derived.Deep.Slices
import Derived.WalkKit
import Derived.ProofKit
import Derived.OpenShut
import Derived.ShutString
import Derived.ChangeOld
import Derived.Below
import Derived.SizedLaws
import Derived.Lib.SmallJoins
namespace Go.Proofs.Yteajaakhdnlpeaa.cacheRings
open Go.ChangeShapes Go.WideShapes Go.ChangeAt Go.RowKit Go.Joins
open Go.Proofs.Yteajaakhdnlpeaa.Q
set_option linter.unusedVariables false
theorem own : ownKnob Try.prog.godebug = none := by kernel_rfl
theorem laidOut : laidOutB Try.prog = true := by kernel_rfl
theorem one_int {H : Type} {enc : TypeId × Value → H} {W : World} {base : Nat} {spare : Nat → Bool} {held : Bool} {n : Nat} {t : TypeId} {k : IntKind} {c : Value} {y : DataW H × List MemPlace} (hu : Try.prog.underlying t = some (.int k)) (h : DataW.trod enc Try.prog W base spare held n t [c] = some y) : ∀ v ∈ [c], v.oneCell' = true := by
  obtain ⟨m, e, _⟩ := DataW.trod_int hu h
  simp at e; subst e; simp [Value.oneCell']
theorem one_bool {H : Type} {enc : TypeId × Value → H} {W : World} {base : Nat} {spare : Nat → Bool} {held : Bool} {n : Nat} {t : TypeId} {c : Value} {y : DataW H × List MemPlace} (hu : Try.prog.underlying t = some .bool) (h : DataW.trod enc Try.prog W base spare held n t [c] = some y) : ∀ v ∈ [c], v.oneCell' = true := by
  obtain ⟨m, e, _⟩ := DataW.trod_bool hu h
  simp at e; subst e; simp [Value.oneCell']
theorem one_str {H : Type} {enc : TypeId × Value → H} {W : World} {base : Nat} {spare : Nat → Bool} {held : Bool} {n : Nat} {t : TypeId} {c : Value} {y : DataW H × List MemPlace} (hu : Try.prog.underlying t = some .string) (h : DataW.trod enc Try.prog W base spare held n t [c] = some y) : ∀ v ∈ [c], v.oneCell' = true := by
  obtain ⟨m, e, _⟩ := DataW.trod_string hu h
  simp at e; subst e; simp [Value.oneCell']
theorem one_slice {H : Type} {enc : TypeId × Value → H} {W : World} {base : Nat} {spare : Nat → Bool} {held : Bool} {n : Nat} {t e : TypeId} {c : Value} {y : DataW H × List MemPlace} (hu : Try.prog.underlying t = some (.slice e)) (h : DataW.trod enc Try.prog W base spare held n t [c] = some y) : ∀ v ∈ [c], v.oneCell' = true := by
  rcases DataW.trod_slice hu h with ⟨e, _⟩ | ⟨a, len, cap, _, _, _, _, e, _⟩ <;> (simp at e; subst e; simp [Value.oneCell'])
set_option maxRecDepth 100000 in
theorem one_zxid {H : Type} {enc : TypeId × Value → H} {W : World} {base : Nat} {spare : Nat → Bool} {held : Bool} {n : Nat} {c0 c1 : Value} {y : DataW H × List MemPlace} (h : DataW.trod enc Try.prog W base spare held n 37 [c0, c1] = some y) : ∀ v ∈ [c0, c1], v.oneCell' = true := by
  obtain ⟨ys, k, _, hy, _, hyl, hf⟩ := DataW.trod_struct Try.underlying37 h
  obtain ⟨y0, y1, rfl⟩ : ∃ z0 z1, ys = [z0, z1] := by
    match ys, hyl with
    | [z0, z1], _ => exact ⟨z0, z1, rfl⟩
  have g0 : DataW.trod enc Try.prog W base spare held k 35 [c0] = some y0 := hf 0 _ rfl
  have q0 := one_int Try.underlying35 g0
  have g1 : DataW.trod enc Try.prog W base spare held k 35 [c1] = some y1 := hf 1 _ rfl
  have q1 := one_int Try.underlying35 g1
  simp only [List.mem_cons, List.not_mem_nil, or_false, forall_eq_or_imp, forall_eq] at *
  simp only [q0, q1, and_self]
set_option maxRecDepth 100000 in
theorem one_origin {H : Type} {enc : TypeId × Value → H} {W : World} {base : Nat} {spare : Nat → Bool} {held : Bool} {n : Nat} {c0 c1 c2 : Value} {y : DataW H × List MemPlace} (h : DataW.trod enc Try.prog W base spare held n 40 [c0, c1, c2] = some y) : ∀ v ∈ [c0, c1, c2], v.oneCell' = true := by
  obtain ⟨ys, k, _, hy, _, hyl, hf⟩ := DataW.trod_struct Try.underlying40 h
  obtain ⟨y0, y1, y2, rfl⟩ : ∃ z0 z1 z2, ys = [z0, z1, z2] := by
    match ys, hyl with
    | [z0, z1, z2], _ => exact ⟨z0, z1, z2, rfl⟩
  have g0 : DataW.trod enc Try.prog W base spare held k 38 [c0] = some y0 := hf 0 _ rfl
  have q0 := one_int Try.underlying38 g0
  have g1 : DataW.trod enc Try.prog W base spare held k 35 [c1] = some y1 := hf 1 _ rfl
  have q1 := one_int Try.underlying35 g1
  have g2 : DataW.trod enc Try.prog W base spare held k 2 [c2] = some y2 := hf 2 _ rfl
  have q2 := one_int Try.underlying2 g2
  simp only [List.mem_cons, List.not_mem_nil, or_false, forall_eq_or_imp, forall_eq] at *
  simp only [q0, q1, q2, and_self]
set_option maxRecDepth 100000 in
theorem one_req {H : Type} {enc : TypeId × Value → H} {W : World} {base : Nat} {spare : Nat → Bool} {held : Bool} {n : Nat} {c0 c1 c2 c3 c4 c5 c6 c7 c8 c9 c10 : Value} {y : DataW H × List MemPlace} (h : DataW.trod enc Try.prog W base spare held n 46 [c0, c1, c2, c3, c4, c5, c6, c7, c8, c9, c10] = some y) : ∀ v ∈ [c0, c1, c2, c3, c4, c5, c6, c7, c8, c9, c10], v.oneCell' = true := by
  obtain ⟨ys, k, _, hy, _, hyl, hf⟩ := DataW.trod_struct Try.underlying46 h
  obtain ⟨y0, y1, y2, y3, y4, y5, y6, y7, y8, y9, y10, rfl⟩ : ∃ z0 z1 z2 z3 z4 z5 z6 z7 z8 z9 z10, ys = [z0, z1, z2, z3, z4, z5, z6, z7, z8, z9, z10] := by
    match ys, hyl with
    | [z0, z1, z2, z3, z4, z5, z6, z7, z8, z9, z10], _ => exact ⟨z0, z1, z2, z3, z4, z5, z6, z7, z8, z9, z10, rfl⟩
  have g0 : DataW.trod enc Try.prog W base spare held k 38 [c0] = some y0 := hf 0 _ rfl
  have q0 := one_int Try.underlying38 g0
  have g1 : DataW.trod enc Try.prog W base spare held k 9 [c1] = some y1 := hf 1 _ rfl
  have q1 := one_str Try.underlying9 g1
  have g2 : DataW.trod enc Try.prog W base spare held k 41 [c2] = some y2 := hf 2 _ rfl
  have q2 := one_slice Try.underlying41 g2
  have g3 : DataW.trod enc Try.prog W base spare held k 42 [c3] = some y3 := hf 3 _ rfl
  have q3 := one_slice Try.underlying42 g3
  have g4 : DataW.trod enc Try.prog W base spare held k 21 [c4] = some y4 := hf 4 _ rfl
  have q4 := one_int Try.underlying21 g4
  have g5 : DataW.trod enc Try.prog W base spare held k 4 [c5] = some y5 := hf 5 _ rfl
  have q5 := one_bool Try.underlying4 g5
  have g6 : DataW.trod enc Try.prog W base spare held k 4 [c6] = some y6 := hf 6 _ rfl
  have q6 := one_bool Try.underlying4 g6
  have g7 : DataW.trod enc Try.prog W base spare held k 2 [c7] = some y7 := hf 7 _ rfl
  have q7 := one_int Try.underlying2 g7
  have g8 : DataW.trod enc Try.prog W base spare held k 21 [c8] = some y8 := hf 8 _ rfl
  have q8 := one_int Try.underlying21 g8
  have g9 : DataW.trod enc Try.prog W base spare held k 43 [c9] = some y9 := hf 9 _ rfl
  have q9 := one_slice Try.underlying43 g9
  have g10 : DataW.trod enc Try.prog W base spare held k 44 [c10] = some y10 := hf 10 _ rfl
  have q10 := one_slice Try.underlying44 g10
  simp only [List.mem_cons, List.not_mem_nil, or_false, forall_eq_or_imp, forall_eq] at *
  simp only [q0, q1, q2, q3, q4, q5, q6, q7, q8, q9, q10, and_self]
set_option maxRecDepth 100000 in
theorem one_txn {H : Type} {enc : TypeId × Value → H} {W : World} {base : Nat} {spare : Nat → Bool} {held : Bool} {n : Nat} {c0 c1 c2 c3 c4 c5 c6 c7 c8 c9 c10 c11 c12 c13 c14 c15 : Value} {y : DataW H × List MemPlace} (h : DataW.trod enc Try.prog W base spare held n 48 [c0, c1, c2, c3, c4, c5, c6, c7, c8, c9, c10, c11, c12, c13, c14, c15] = some y) : ∀ v ∈ [c0, c1, c2, c3, c4, c5, c6, c7, c8, c9, c10, c11, c12, c13, c14, c15], v.oneCell' = true := by
  obtain ⟨ys, k, _, hy, _, hyl, hf⟩ := DataW.trod_struct Try.underlying48 h
  obtain ⟨y0, y1, y2, rfl⟩ : ∃ z0 z1 z2, ys = [z0, z1, z2] := by
    match ys, hyl with
    | [z0, z1, z2], _ => exact ⟨z0, z1, z2, rfl⟩
  have g0 : DataW.trod enc Try.prog W base spare held k 37 [c0, c1] = some y0 := hf 0 _ rfl
  have q0 := one_zxid g0
  have g1 : DataW.trod enc Try.prog W base spare held k 40 [c2, c3, c4] = some y1 := hf 1 _ rfl
  have q1 := one_origin g1
  have g2 : DataW.trod enc Try.prog W base spare held k 46 [c5, c6, c7, c8, c9, c10, c11, c12, c13, c14, c15] = some y2 := hf 2 _ rfl
  have q2 := one_req g2
  simp only [List.mem_cons, List.not_mem_nil, or_false, forall_eq_or_imp, forall_eq] at *
  simp only [q0, q1, q2, and_self]
set_option maxRecDepth 100000 in
theorem one_op {H : Type} {enc : TypeId × Value → H} {W : World} {base : Nat} {spare : Nat → Bool} {held : Bool} {n : Nat} {c0 c1 c2 c3 c4 c5 c6 c7 c8 c9 c10 c11 c12 c13 c14 c15 c16 c17 c18 c19 c20 c21 c22 : Value} {y : DataW H × List MemPlace} (h : DataW.trod enc Try.prog W base spare held n 50 [c0, c1, c2, c3, c4, c5, c6, c7, c8, c9, c10, c11, c12, c13, c14, c15, c16, c17, c18, c19, c20, c21, c22] = some y) : ∀ v ∈ [c0, c1, c2, c3, c4, c5, c6, c7, c8, c9, c10, c11, c12, c13, c14, c15, c16, c17, c18, c19, c20, c21, c22], v.oneCell' = true := by
  obtain ⟨ys, k, _, hy, _, hyl, hf⟩ := DataW.trod_struct Try.underlying50 h
  obtain ⟨y0, y1, y2, y3, y4, y5, rfl⟩ : ∃ z0 z1 z2 z3 z4 z5, ys = [z0, z1, z2, z3, z4, z5] := by
    match ys, hyl with
    | [z0, z1, z2, z3, z4, z5], _ => exact ⟨z0, z1, z2, z3, z4, z5, rfl⟩
  have g0 : DataW.trod enc Try.prog W base spare held k 3 [c0] = some y0 := hf 0 _ rfl
  have q0 := one_int Try.underlying3 g0
  have g1 : DataW.trod enc Try.prog W base spare held k 3 [c1] = some y1 := hf 1 _ rfl
  have q1 := one_int Try.underlying3 g1
  have g2 : DataW.trod enc Try.prog W base spare held k 2 [c2] = some y2 := hf 2 _ rfl
  have q2 := one_int Try.underlying2 g2
  have g3 : DataW.trod enc Try.prog W base spare held k 48 [c3, c4, c5, c6, c7, c8, c9, c10, c11, c12, c13, c14, c15, c16, c17, c18] = some y3 := hf 3 _ rfl
  have q3 := one_txn g3
  have g4 : DataW.trod enc Try.prog W base spare held k 37 [c19, c20] = some y4 := hf 4 _ rfl
  have q4 := one_zxid g4
  have g5 : DataW.trod enc Try.prog W base spare held k 37 [c21, c22] = some y5 := hf 5 _ rfl
  have q5 := one_zxid g5
  simp only [List.mem_cons, List.not_mem_nil, or_false, forall_eq_or_imp, forall_eq] at *
  simp only [q0, q1, q2, q3, q4, q5, and_self]
theorem spot_of_cell {w : World} {a : Addr} {v : Value} (h : w.cell? a = some v) : a = ⟨a.block, a.off, none⟩ := by
  obtain ⟨b, o, s⟩ := a
  unfold World.cell? at h
  split at h
  · cases s with
    | none => rfl
    | some x => simp at h
  · simp at h
set_option maxRecDepth 100000 in
/-- A slice of calls among the arguments. -/
theorem open_ops {H : Type} {enc : TypeId × Value → H} {W : World} {base : Nat} {spare : Nat → Bool} {held : Bool} {n : Nat} {c : Value} {y : DataW H × List MemPlace} (h : DataW.trod enc Try.prog W base spare held n 22 [c] = some y) :
    ∃ A len cap, ∃ os : List OpV, c = .slice A len cap ∧ os.length = len ∧ RdO W A os := by
  rcases Go.Deep.open_slice Try.underlying22 h with ⟨hcs, _⟩ | ⟨a, l, cp, m, n, D, Pl, hcs, _, hl, hm, hmm, _, hi⟩
  · exact ⟨none, 0, 0, [], by simpa using hcs, rfl, ⟨by simp, by simp⟩⟩
  · have hle : l ≤ m := by rw [hmm]; split <;> omega
    have h3 : Program.cellsOf Try.prog 50 = 23 := by kernel_rfl
    have key : ∀ i, i < l → ∃ o : OpV, ∃ cs : List Value, cs.length = 23 ∧ (∀ j v, cs[j]? = some v → W.cell? ((a.add (i * 23)).add j) = some v) ∧ (∀ v ∈ cs, v.oneCell' = true) ∧ cs[0]? = some (.int .i64 o.kind) ∧ cs[1]? = some (.int .i64 o.on) ∧ cs[2]? = some (.int .i64 o.n) := fun i hil => by
      obtain ⟨cs, hc, ht⟩ := hi i (by omega)
      rw [h3] at hc
      obtain ⟨_, hlen, hat⟩ := World.cells?_some hc
      obtain ⟨c0, c1, c2, c3, c4, c5, c6, c7, c8, c9, c10, c11, c12, c13, c14, c15, c16, c17, c18, c19, c20, c21, c22, rfl⟩ : ∃ z0 z1 z2 z3 z4 z5 z6 z7 z8 z9 z10 z11 z12 z13 z14 z15 z16 z17 z18 z19 z20 z21 z22, cs = [z0, z1, z2, z3, z4, z5, z6, z7, z8, z9, z10, z11, z12, z13, z14, z15, z16, z17, z18, z19, z20, z21, z22] := by
        match cs, hlen with
        | [z0, z1, z2, z3, z4, z5, z6, z7, z8, z9, z10, z11, z12, z13, z14, z15, z16, z17, z18, z19, z20, z21, z22], _ => exact ⟨z0, z1, z2, z3, z4, z5, z6, z7, z8, z9, z10, z11, z12, z13, z14, z15, z16, z17, z18, z19, z20, z21, z22, rfl⟩
      have h1 := one_op ht
      obtain ⟨ys, k, _, hy, _, hyl, hf⟩ := DataW.trod_struct Try.underlying50 ht
      obtain ⟨y0, y1, y2, y3, y4, y5, rfl⟩ : ∃ z0 z1 z2 z3 z4 z5, ys = [z0, z1, z2, z3, z4, z5] := by
        match ys, hyl with
        | [z0, z1, z2, z3, z4, z5], _ => exact ⟨z0, z1, z2, z3, z4, z5, rfl⟩
      have g0 : DataW.trod enc Try.prog W base spare held k 3 [c0] = some y0 := hf 0 _ rfl
      have g1 : DataW.trod enc Try.prog W base spare held k 3 [c1] = some y1 := hf 1 _ rfl
      have g2 : DataW.trod enc Try.prog W base spare held k 2 [c2] = some y2 := hf 2 _ rfl
      obtain ⟨n0, e0, _⟩ := DataW.trod_int Try.underlying3 g0
      obtain ⟨n1, e1, _⟩ := DataW.trod_int Try.underlying3 g1
      obtain ⟨n2, e2, _⟩ := DataW.trod_int Try.underlying2 g2
      have e0 : c0 = .int .i64 n0 := by simpa using e0
      have e1 : c1 = .int .i64 n1 := by simpa using e1
      have e2 : c2 = .int .i64 n2 := by simpa using e2
      refine ⟨⟨n0, n1, n2⟩, [c0, c1, c2, c3, c4, c5, c6, c7, c8, c9, c10, c11, c12, c13, c14, c15, c16, c17, c18, c19, c20, c21, c22], rfl, fun j v hv => ?_, h1, by simp [e0], by simp [e1], by simp [e2]⟩
      have hj : j < 23 := (List.getElem?_eq_some_iff.1 hv).1
      rw [hat j hj]; exact hv
    refine ⟨some a, l, cp, (List.range l).map (fun i => if h : i < l then (key i h).choose else ⟨0, 0, 0⟩), by simpa using hcs, by simp, ?_⟩
    unfold maxLen at hm
    refine ⟨by simp; omega, fun hp => ?_⟩
    simp only [List.length_map, List.length_range] at hp
    have hs : a = ⟨a.block, a.off, none⟩ := by
      obtain ⟨cs, hl, hat, _, h0, _⟩ := (key 0 hp).choose_spec
      have h9 : W.cell? a = _ := hat 0 _ h0
      exact spot_of_cell h9
    refine ⟨a.block, a.off, by rw [← hs], fun i hi => ?_⟩
    simp only [List.length_map, List.length_range] at hi
    have hg : ((List.range l).map (fun i => if h : i < l then (key i h).choose else (⟨0, 0, 0⟩ : OpV))).getD i ⟨0, 0, 0⟩ = (key i hi).choose := by
      simp [List.getD_eq_getElem?_getD, hi]
    rw [hg]
    obtain ⟨cs, hl, hat, h1, h0⟩ := (key i hi).choose_spec
    refine ⟨cs, hl, fun j v hv => ?_, h1, h0⟩
    have := hat j v hv
    rw [hs, Addr.add_mid, Addr.add_mid] at this
    exact this
set_option maxRecDepth 100000 in
theorem lifted (os : Os) (started : os.Started) (H : Type) (enc : TypeId × Value → H) :
    ReturnsInHanded {} Try.checked os 3 .any (Rows.cacheRingsSpec.pre6 enc Try.prog Try.f3 Rows.cacheRingsRow.domain false) (Rows.cacheRingsSpec.post enc Try.prog Try.f3 false true false false) := by
  refine returnsInHanded_of_change_sized (C := Try.checked) own started (by kernel_rfl) Try.func3
    (ChangeSpec.witness6 (enc := enc) (C := Try.checked) false ⟨#[], #[.int .i64 0, .int .i64 0, .slice none 0 0], []⟩ 8 (by kernel_rfl) (by kernel_rfl) (by kernel_rfl) (by kernel_rfl)) ?_
  intro W base args ds gs before hval0 hW hcnd hsz0 _
  have hval : ∀ (j : Nat) t v, Try.f3.params[j]? = some t → args[j]? = some v → Value.okWide Try.prog W .any base t v := hval0
  have hW' := hW
  obtain ⟨p, q, hA0, hV, rfl, hfz, hnd⟩ := hW
  have hA : DataW.TrodAll enc Try.prog W 0 (fun _ => true) true Try.f3.params.toList args.toList ds p := hA0
  rw [Try.params3] at hA hval
  obtain ⟨v0, vs0, d0, ds0, p0, q0, hargs, rfl, rfl, h0, r0⟩ := trodAll_cons hA
  obtain ⟨v1, vs1, d1, ds1, p1, q1, rfl, rfl, rfl, h1, r1⟩ := trodAll_cons r0
  obtain ⟨v2, vs2, d2, ds2, p2, q2, rfl, rfl, rfl, h2, r2⟩ := trodAll_cons r1
  obtain ⟨rfl, rfl, rfl⟩ := trodAll_nil r2
  obtain rfl : args = #[v0, v1, v2] := by cases args; simp_all
  obtain ⟨rfl, rfl⟩ := trodVars_none hV
  obtain ⟨a2, len2, cap2, rfl⟩ := okWide_slice Try.underlying22 (hval 2 22 v2 rfl rfl)
  have k0 := h0
  have k1 := h1
  have k2 := h2
  have lt0 : ∀ x ∈ p0, x.block < W.heap.size := by obtain ⟨m, hm⟩ := k0; exact DataW.trod_lt m _ _ _ hm
  have lt1 : ∀ x ∈ p1, x.block < W.heap.size := by obtain ⟨m, hm⟩ := k1; exact DataW.trod_lt m _ _ _ hm
  have lt2 : ∀ x ∈ p2, x.block < W.heap.size := by obtain ⟨m, hm⟩ := k2; exact DataW.trod_lt m _ _ _ hm
  have back0 : ∀ W', Below W.heap.size W W' → DataW.Trod enc Try.prog W' 0 (fun b => decide (b < W.heap.size)) true 3 v0 d0 p0 := fun W' bel => Below.trod laidOut (by kernel_rfl) (of_decide_eq_true (by kernel_rfl)) k0 bel lt0
  have back1 : ∀ W', Below W.heap.size W W' → DataW.Trod enc Try.prog W' 0 (fun b => decide (b < W.heap.size)) true 3 v1 d1 p1 := fun W' bel => Below.trod laidOut (by kernel_rfl) (of_decide_eq_true (by kernel_rfl)) k1 bel lt1
  have back2 : ∀ W', Below W.heap.size W W' → DataW.Trod enc Try.prog W' 0 (fun b => decide (b < W.heap.size)) true 22 (.slice a2 len2 cap2) d2 p2 := fun W' bel => Below.trod laidOut (by kernel_rfl) (of_decide_eq_true (by kernel_rfl)) k2 bel lt2
  obtain ⟨a, hv0, _, _, wa⟩ := open_int Try.underlying3 (hval 0 3 v0 rfl rfl) h0
  obtain ⟨b, hv1, _, _, wb⟩ := open_int Try.underlying3 (hval 1 3 v1 rfl rfl) h1
  obtain ⟨m2, y2⟩ := id h2
  obtain ⟨A, la, ca, os', hc2, hla, hRa⟩ := open_ops (show DataW.trod enc Try.prog W 0 (fun _ => true) true m2 22 [.slice a2 len2 cap2] = _ from y2)
  clear hA0 hval0 hsz0
  have walk : Calls Try.prog 3 #[v0, v1, .slice a2 len2 cap2] W fun e w' => e = .returned (.bool true) ∧ Below W.heap.size W w' := by
    rw [hv0, hv1, hc2, ← hla]
    by_cases hl : 4194304 < os'.length
    · exact rings_long a b A os'.length ca W hl hRa.1
    · exact rings_yes a b A ca os' W hRa (by omega)
  refine walk.mono fun e W' ⟨he, bel⟩ => ?_
  subst he
  exact ⟨_, rfl, _, _, _, [], _, [], hW', trodAll_mk1 (shut_bool Try.underlying4 _), (trodAll_cons_mk (back0 W' bel) (trodAll_cons_mk (back1 W' bel) (trodAll_cons_mk (back2 W' bel) trodAll_mk0))), rfl, bel.frame _, fun h => by cases h⟩
theorem over : Rows.cacheRingsRow.holds Try.pinned (OpenSpec.ofChange Rows.cacheRingsSpec) :=
  OpenClaim.holds_of_wide 3 Try.f3 rfl rfl rfl rfl rfl rfl rfl ⟨rfl, rfl, rfl, rfl, rfl⟩ rfl rfl rfl rfl rfl (by kernel_rfl) Try.func3 (by kernel_rfl)
    (of_decide_eq_true (by kernel_rfl)) (by unfold Func.isWrapper; first | (rw [if_pos (by decide +kernel)]; kernel_rfl) | (rw [if_neg (by decide +kernel)]; exact ⟨rfl, rfl⟩))
    (fun os started H enc _ => lifted os started H enc)
theorem proved : Rows.CacheRingsSaid := over
#print axioms proved
end Go.Proofs.Yteajaakhdnlpeaa.cacheRings
namespace Go.Proofs.Yteajaakhdnlpeaa
/-- The row, under a short name, for the claim. -/
theorem cacheRings_holds : Rows.CacheRingsSaid := cacheRings.proved
end Go.Proofs.Yteajaakhdnlpeaa
