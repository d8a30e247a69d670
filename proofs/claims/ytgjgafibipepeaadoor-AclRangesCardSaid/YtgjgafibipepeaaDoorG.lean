import Derived.Test.YtgjgafibipepeaaDoorF
namespace Go.Proofs.YtgjgafibipepeaaDoor.Q
open Go.RowKit Go.Proofs.YtgjgafibipepeaaDoorW.PrintWords Go.Deep Go.Maps Go.WideShapes Go.Lib
set_option linter.unusedVariables false
set_option linter.unusedSimpArgs false
attribute [local go_sem] Oper.semAt_some

/-! '==' OF FOUR BYTES -/
theorem run_isAgg_int (P : Program) (e : TypeId) (k : IntKind) (he : P.underlying e = some (.int k)) (w : World) : (isAgg e).run P w = .ok false w := by
  unfold isAgg
  rw [Sem.run_bind, run_underlying he w]
  simp
def tab4 (f : Nat → Int) : Array Value := #[.int .u8 (f 0), .int .u8 (f 1), .int .u8 (f 2), .int .u8 (f 3)]
def eq4 (f g : Nat → Int) : Bool := (f 0 == g 0 && (f 1 == g 1 && (f 2 == g 2 && f 3 == g 3)))
theorem run_equalIn_tab4 (d : Nat) (f g : Nat → Int) (w : World) :
    (Op.equalIn (d + 2) 22 (.agg (tab4 f)) (.agg (tab4 g))).run Tryd.prog w = .ok (eq4 f g) w := by
  have hu := run_underlying Tryd.underlying22 w
  have hsz : (sizeOf 5).run Tryd.prog w = .ok 1 w := by kernel_rfl
  have key : ∀ i, i < 4 → ∀ h : Nat → Int, (part 5 (tab4 h) i).run Tryd.prog w = .ok (.int .u8 (h i)) w := by
    intro i hi h
    unfold part
    rw [Sem.run_bind, run_isAgg_int Tryd.prog 5 .u8 Tryd.underlying5 w]
    have : i = 0 ∨ i = 1 ∨ i = 2 ∨ i = 3 := by omega
    rcases this with rfl | rfl | rfl | rfl <;> simp [tab4]
  have k0 := key 0 (by omega)
  have k1 := key 1 (by omega)
  have k2 := key 2 (by omega)
  have k3 := key 3 (by omega)
  clear key
  have hq := fun a b => run_equalIn_int (P := Tryd.prog) w d 5 .u8 .u8 a b Tryd.underlying5
  rw [Op.equalIn]
  simp only [Sem.run_bind, hu, Result.andThen_ok, hsz]
  simp only [eq4, Std.Legacy.Range.forIn_eq_forIn_range', Std.Legacy.Range.size, Nat.sub_zero, Nat.add_sub_cancel, Nat.div_one, List.range'_succ, List.range'_zero, List.forIn_cons, List.forIn_nil, Nat.mul_one, Nat.zero_mul, Nat.zero_add, Nat.reduceAdd, Sem.run_bind, k0, k1, k2, k3, hq, Result.andThen_ok]
  cases h0 : f 0 == g 0
  · simp [Sem.run_bind]
  simp only [Bool.not_true, Bool.false_eq_true, if_false, Sem.run_pure, Result.andThen_ok, Sem.run_bind, k1, hq, Bool.true_and]
  cases h1 : f 1 == g 1
  · simp [Sem.run_bind]
  simp only [Bool.not_true, Bool.false_eq_true, if_false, Sem.run_pure, Result.andThen_ok, Sem.run_bind, k2, hq, Bool.true_and]
  cases h2 : f 2 == g 2
  · simp [Sem.run_bind]
  simp only [Bool.not_true, Bool.false_eq_true, if_false, Sem.run_pure, Result.andThen_ok, Sem.run_bind, k3, hq, Bool.true_and]
  cases h3 : f 3 == g 3
  · simp [Sem.run_bind]
  simp only [Bool.not_true, Bool.false_eq_true, if_false, Sem.run_pure, Result.andThen_ok, Sem.run_bind, hq, Bool.true_and]
theorem quad_equal (p q : Quad) (W : World) : (Op.equalIn 10000 22 (quadV p) (quadV q)).run Tryd.prog W = .ok (decide (p = q)) W := by
  have h := run_equalIn_tab4 9998 (fun i => (byteAt p i : Nat)) (fun i => (byteAt q i : Nat)) W
  have e : eq4 (fun i => (byteAt p i : Nat)) (fun i => (byteAt q i : Nat)) = decide (p = q) := by
    obtain ⟨a, b, c, d⟩ := p
    obtain ⟨a', b', c', d'⟩ := q
    rw [Bool.eq_iff_iff]
    simp [eq4, byteAt, Prod.ext_iff]
    omega
  rw [e] at h
  exact h
/-! WITHIN A RANGE -/
theorem ranged_yes (s : ByteArray) (q : Quad) (n : Nat) (w : World) (hs : s.size ≤ 536870912) (hE : Env w) (h : rangeB s.data.toList = some (q, n)) :
    Calls Tryd.prog 52 #[.string s] w fun e w' => e = .returned (.tuple #[quadV q, .int .i64 n, .bool true]) ∧ Below w.heap.size w w' := by
  refine (ranged_calls s w hs hE).mono ?_
  rintro e w' ⟨⟨a, b, c, d, m, rfl, hq⟩, hB⟩
  obtain ⟨h1, rfl⟩ := hq q n h
  rw [h1, h]
  exact ⟨rfl, hB⟩
set_option maxRecDepth 100000 in
set_option maxHeartbeats 8000000 in
theorem within_calls (s t : ByteArray) (p q : Quad) (n : Nat) (w : World) (hs : s.size ≤ 536870912) (ht : t.size ≤ 536870912) (hE : Env w) (h1 : rangeB s.data.toList = some (p, n)) (h2 : addrB t.data.toList = some q) :
    Calls Tryd.prog 47 #[.string s, .string t] w fun e w' => e = .returned (.bool (decide (agree n p q))) ∧ Below w.heap.size w w' := by
  have hsm := rangeB_some.1 h1
  have hp := hsm.1
  have hn : n ≤ 32 := by rcases hsm.2 with ⟨_, h⟩ | ⟨_, h⟩ <;> omega
  have hq := (addrB_some.1 h2).2
  have hag : decide (agree n p q) = decide (cutQ n p = cutQ n q) := by rw [decide_eq_decide]; exact (cut_agree hn hp hq).symm
  rw [hag]
  have K1 := Lib.hid (ranged_yes s p n w hs hE h1)
  have K2 := Lib.hid (fun W (hB : Below w.heap.size w W) => (address_calls t W ht (hE.below hB)))
  rw [h2] at K2
  have heq := quad_equal (cutQ n p) (cutQ n q)
  have KC := Lib.hid (And.intro (fun W => cut_calls p n W hn hp) (fun W => cut_calls q n W hn hq))
  obtain ⟨x, hx⟩ : ∃ x, decide (cutQ n p = cutQ n q) = x := ⟨_, rfl⟩
  rw [hx] at heq ⊢
  clear hsm hp hq hag h1 h2 hE hx
  obtain ⟨p0, p1, p2, p3⟩ := p
  obtain ⟨q0, q1, q2, q3⟩ := q
  obtain ⟨⟨x0, x1, x2, x3⟩, hX⟩ : ∃ X, cutQ n (p0, p1, p2, p3) = X := ⟨_, rfl⟩
  obtain ⟨⟨y0, y1, y2, y3⟩, hY⟩ : ∃ X, cutQ n (q0, q1, q2, q3) = X := ⟨_, rfl⟩
  rw [hX, hY] at KC heq
  clear hX hY
  simp only [quadV, byteV, Option.map_some, Option.getD_some, Option.isSome_some] at K1 K2 KC heq
  go_enter Tryd.func47, Tryd.ntmps47
  go_wp2_with fail
  refine K1.out.mono ?_
  rintro e w1 ⟨rfl, hB1⟩
  have HB1 := Lib.hid (below_alloc hB1 (.cells #[.int .u8 p0, .int .u8 p1, .int .u8 p2, .int .u8 p3] 22))
  have HN1 := Lib.hid (World.alloc_heap_new w1 (.cells #[.int .u8 p0, .int .u8 p1, .int .u8 p2, .int .u8 p3] 22))
  clear hB1
  go_wp2_with fail
  refine (K2.out _ HB1.out).mono ?_
  rintro e w2 ⟨rfl, hB2⟩
  have hn2 := block_of hB2 HN1.out
  have hB3 := below_step HB1.out hB2
  obtain ⟨W3, hW3⟩ : ∃ V, w2.alloc (.cells #[.int .u8 q0, .int .u8 q1, .int .u8 q2, .int .u8 q3] 22) = V := ⟨_, rfl⟩
  have hn3 : W3.heap[w1.heap.size]? = some (.cells #[.int .u8 p0, .int .u8 p1, .int .u8 p2, .int .u8 p3] 22 (0, 0)) := hW3 ▸ (Below.heap_alloc w2 _ _ (Array.getElem?_eq_some_iff.1 hn2).1).trans hn2
  have hm3 : W3.heap[w2.heap.size]? = some (.cells #[.int .u8 q0, .int .u8 q1, .int .u8 q2, .int .u8 q3] 22 (0, 0)) := hW3 ▸ World.alloc_heap_new w2 _
  have HB3 := Lib.hid (hW3 ▸ below_alloc hB3 _ : Below w.heap.size w W3)
  have c0 := cell_regrown (cell_row (k := 0) (v := .int .u8 p0) hn3 rfl)
  have c1 := cell_regrown (cell_row (k := 1) (v := .int .u8 p1) hn3 rfl)
  have c2 := cell_regrown (cell_row (k := 2) (v := .int .u8 p2) hn3 rfl)
  have c3 := cell_regrown (cell_row (k := 3) (v := .int .u8 p3) hn3 rfl)
  have d0 := cell_regrown (cell_row (k := 0) (v := .int .u8 q0) hm3 rfl)
  have d1 := cell_regrown (cell_row (k := 1) (v := .int .u8 q1) hm3 rfl)
  have d2 := cell_regrown (cell_row (k := 2) (v := .int .u8 q2) hm3 rfl)
  have d3 := cell_regrown (cell_row (k := 3) (v := .int .u8 q3) hm3 rfl)
  have k1 : ∀ d os, Calls Tryd.prog 54 #[.agg #[.int .u8 p0, .int .u8 p1, .int .u8 p2, .int .u8 p3], .int .i64 n] (Go.Sort.grow (redrawn W3 d) os) fun e w'' => e = .returned (.agg #[.int .u8 x0, .int .u8 x1, .int .u8 x2, .int .u8 x3]) ∧ ∃ p : Regrown, w'' = Go.Sort.grow (redrawn W3 p.d) p.os := fun d os => Calls.regrown_of (KC.out.1 _)
  have k2 : ∀ d os, Calls Tryd.prog 54 #[.agg #[.int .u8 q0, .int .u8 q1, .int .u8 q2, .int .u8 q3], .int .i64 n] (Go.Sort.grow (redrawn W3 d) os) fun e w'' => e = .returned (.agg #[.int .u8 y0, .int .u8 y1, .int .u8 y2, .int .u8 y3]) ∧ ∃ p : Regrown, w'' = Go.Sort.grow (redrawn W3 p.d) p.os := fun d os => Calls.regrown_of (KC.out.2 _)
  clear hB2 hB3 hn2 hn3 hm3
  go_wp2_with fail
  refine wp_region_quiet_below (by kernel_rfl) (by kernel_rfl) ?_
  repeat (go_big_quiet_step (first | (with_reducible exact k1 _ _) | (with_reducible exact k2 _ _)))
  refine wpQuiet_nil ?_
  intro _ hw'
  obtain ⟨⟨dq, osq⟩, hw''⟩ := hw'
  subst hw''
  have HB4 := Lib.hid (below_step HB3.out (below_regrown W3 dq osq))
  generalize Go.Sort.grow (redrawn W3 dq) osq = W4 at *
  clear c0 c1 c2 c3 d0 d1 d2 d3 k1 k2 heq
  go_wp2
  go_ret
  exact ⟨rfl, HB4.out⟩
end Go.Proofs.YtgjgafibipepeaaDoor.Q
