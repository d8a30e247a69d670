import Derived.Test.YtkhnjckkjdldbaaDoorK8
namespace Go.Proofs.YtkhnjckkjdldbaaDoor.Q
open Go.RowKit Go.Proofs.YtkhnjckkjdldbaaDoorW.PrintWords Go.Deep Go.Maps Go.WideShapes
open Go.Proofs.YtkhnjckkjdldbaaDoor.Pr (S30 S32 z30 k30 k32)
set_option linter.unusedVariables false
set_option linter.unusedSimpArgs false
attribute [local go_sem] Oper.semAt_some
/-! A WATCH IS LEFT, AND FIRES -/
theorem dec_a : Utf8.decode ⟨#[97]⟩ 0 = (97, 1) := by kernel_rfl
theorem name_a : nameOk ⟨#[97]⟩ = true := by
  rw [nameOk_iff]
  refine ⟨?_, ?_, by decide⟩
  · unfold special
    rw [Lib.toList_data]
    decide
  · have hw : wd ⟨#[97]⟩ 0 = 1 := congrArg Prod.snd dec_a
    rw [bad_no (by decide) (by unfold okAt; rw [dec_a]; rfl), hw, bad_out (by decide)]
theorem seg_a : segs ⟨#[47, 97]⟩ 1 = [⟨#[97]⟩] := by
  have h1 : ∀ j, 1 ≤ j → j < 2 → ((⟨#[47, 97]⟩ : ByteArray).get! j).toNat ≠ 47 := fun j a b => by
    have e : j = 1 := by omega
    subst e
    decide
  have he : endAt ⟨#[47, 97]⟩ 1 = 2 := endAt_is (by omega) (by decide) h1 (fun h => absurd h (by decide))
  rw [segs_in (by decide), he, segs_out (by decide)]
  rfl
theorem path_a : isPathB ⟨#[47, 97]⟩ = true := by
  have h : checkP ⟨#[47, 97]⟩ = (0, 0) := by
    rw [checkP_none (by decide) (by rw [Lib.toList_data]; decide) ((ff_none _ 1).2 (by rw [seg_a]; simp [name_a]))]
    rfl
  unfold isPathB
  rw [h]; rfl
theorem add_a : addB [] 0 ⟨4, 1, ⟨#[47, 97]⟩⟩ = (0, [(⟨4, 1, ⟨#[47, 97]⟩⟩, 0)], 1) := by
  unfold addB
  rw [if_neg (fun h => h ⟨rfl, path_a⟩), if_neg (fun h => by obtain ⟨n, hn⟩ := inB_iff.1 h; cases hn), if_neg (by decide)]
  rfl
set_option maxRecDepth 100000 in
set_option maxHeartbeats 8000000 in
theorem lives_calls (w : World) (hT : Tabs w) : Calls Tryd.prog 7 #[] w fun e w' => e = .returned (.bool true) ∧ Below w.heap.size w w' := by
  have KN := Lib.hid (newB_calls w)
  have HT := Lib.hid hT
  clear hT
  go_enter Tryd.func7, Tryd.ntmps7
  go_wp2_with fail
  refine KN.out.mono ?_
  rintro e w1 ⟨c, b, rfl, hbr, hB, hbw, hcw⟩
  obtain ⟨W2, hW2⟩ : ∃ V, w1.alloc (.cells #[.int .i64 4, .int .i8 1, .string ⟨#[47, 97]⟩] 30) = V := ⟨_, rfl⟩
  have hB2 : Below w1.heap.size w1 W2 := by rw [← hW2]; exact below_alloc (Below.refl _ _) _
  have hz : W2.heap[w1.heap.size]? = some (.cells #[.int .i64 4, .int .i8 1, .string ⟨#[47, 97]⟩] 30 (0, 0)) := by rw [← hW2]; exact World.alloc_heap_new w1 _
  have x0 := cell_rowK (k := 0) (v := .int .i64 4) hz rfl
  have x1 := cell_rowK (k := 1) (v := .int .i8 1) hz rfl
  have x2 := cell_rowK (k := 2) (v := .string ⟨#[47, 97]⟩) hz rfl
  have HB2 := Lib.hid (below_step hB hB2)
  have KA := add_calls ⟨4, 1, ⟨#[47, 97]⟩⟩ (hbr.below hB2) (by refine ⟨by decide, by decide, ?_⟩; show 2 ≤ maxLen; unfold maxLen; omega) (by decide) (by omega) (tabs_from HT.out HB2.out)
  rw [add_a] at KA
  have KA := Lib.hid KA
  have hne : w1.heap.size ≠ b ∧ w1.heap.size ≠ c := by
    have h1 := (Array.getElem?_eq_some_iff.1 hbr.cells).1
    obtain ⟨D, h2, _⟩ := hbr.map
    have := h2.lt
    omega
  have HZ := Lib.hid (And.intro hz hne)
  have HBC := Lib.hid (And.intro hbw hcw)
  have HW := Lib.hid hW2
  rw [← hW2] at x0 x1 x2
  clear KN hbr hB hB2 hz hW2 hne hbw hcw
  go_wp2_with fail
  rw [HW.out]
  refine KA.out.mono ?_
  rintro e w3 ⟨rfl, hbr3, ho3⟩
  have HB3 := Lib.hid (ho3.from HB2.out (fun k hk => by have := HBC.out; rcases hk with rfl | rfl <;> omega))
  have hz3 := ho3.blk HZ.out.1 (fun h => by rcases h with h | h; exact HZ.out.2.1 h; exact HZ.out.2.2 h)
  have KF := Lib.hid (fire_one (k := 3) hbr3 (by omega) (by omega) path_a (by decide) (by omega) (tabs_from HT.out HB3.out))
  have HZ3 := Lib.hid hz3
  clear KA hbr3 ho3 hz3 x0 x1 x2
  go_wp2_with fail
  refine KF.out.mono ?_
  rintro e w4 ⟨g, cap, rfl, y0, y1, y2, ho4⟩
  have HB4 := Lib.hid (ho4.from HB3.out (fun k hk => by have := HBC.out; omega))
  have hz4 := ho4.blk HZ3.out HZ.out.2.1
  have z0 := cell_regrown (cell_rowK (k := 0) (v := .int .i64 4) hz4 rfl)
  have z1 := cell_regrown (cell_rowK (k := 1) (v := .int .i8 1) hz4 rfl)
  have z2 := cell_regrown (cell_rowK (k := 2) (v := .string ⟨#[47, 97]⟩) hz4 rfl)
  have v0 := cell_regrown y0
  have v1 := cell_regrown y1
  have v2 := cell_regrown y2
  clear KF ho4 hz4 y0 y1 y2
  go_wp2_with fail
  refine wp_region_quiet_below (by kernel_rfl) (by kernel_rfl) ?_
  repeat (go_big_quiet_step (fail))
  refine wpQuiet_nil ?_
  intro _ hw'
  obtain ⟨⟨dq, osq⟩, hw''⟩ := hw'
  subst hw''
  have HB5 := Lib.hid (below_step HB4.out (below_regrown w4 dq osq))
  clear z0 z1 z2 v0 v1 v2
  go_wp2
  go_ret
  exact ⟨rfl, HB5.out⟩
/-! NIL AND PLAIN BOARDS -/
set_option maxRecDepth 100000 in
set_option maxHeartbeats 8000000 in
theorem watchNil_calls (a k : Int) (p : ByteArray) (ck : Int) (cp : ByteArray) (w : World) (hT : Tabs w) :
    Calls Tryd.prog 5 #[.agg #[.int .i64 a, .int .i8 k, .string p], .agg #[.int .i8 ck, .string cp]] w fun e w' => e = .returned (.bool true) ∧ Below w.heap.size w w' := by
  obtain ⟨W1, hW1⟩ : ∃ V, (w.alloc (.cells #[.int .i64 a, .int .i8 k, .string p] 30)).alloc (.cells #[.int .i8 ck, .string cp] 32) = V := ⟨_, rfl⟩
  have hB1 : Below w.heap.size w W1 := by rw [← hW1]; exact below_alloc (below_alloc (Below.refl _ _) _) _
  have h1 : W1.heap[w.heap.size]? = some (.cells #[.int .i64 a, .int .i8 k, .string p] 30 (0, 0)) := by
    rw [← hW1, heap_alloc_old _ _ (by simp)]; exact World.alloc_heap_new w _
  have h2 : W1.heap[w.heap.size + 1]? = some (.cells #[.int .i8 ck, .string cp] 32 (0, 0)) := by
    have := World.alloc_heap_new (w.alloc (.cells #[.int .i64 a, .int .i8 k, .string p] 30)) (.cells #[.int .i8 ck, .string cp] 32)
    rw [World.size_alloc] at this
    rw [← hW1]; exact this
  have x0 := cell_rowK (k := 0) (v := .int .i64 a) h1 rfl
  have x1 := cell_rowK (k := 1) (v := .int .i8 k) h1 rfl
  have x2 := cell_rowK (k := 2) (v := .string p) h1 rfl
  have y0 := cell_rowK (k := 0) (v := .int .i8 ck) h2 rfl
  have y1 := cell_rowK (k := 1) (v := .string cp) h2 rfl
  have HB1 := Lib.hid hB1
  have HZ := Lib.hid (And.intro h1 h2)
  have HT := Lib.hid hT
  have HW := Lib.hid hW1
  rw [← hW1] at x0 x1 x2 y0 y1
  clear hB1 h1 h2 hT hW1
  by_cases c1 : 2147483647 < (p.size : Int)
  · have q1 : decide (2147483647 < (p.size : Int)) = true := decide_eq_true c1
    go_enter Tryd.func5, Tryd.ntmps5
    go_wp2
    rw [HW.out]
    go_ret
    exact ⟨rfl, HB1.out⟩
  have q1 : decide (2147483647 < (p.size : Int)) = false := decide_eq_false c1
  by_cases c2 : 2147483647 < (cp.size : Int)
  · have q2 : decide (2147483647 < (cp.size : Int)) = true := decide_eq_true c2
    go_enter Tryd.func5, Tryd.ntmps5
    go_wp2
    rw [HW.out]
    go_ret
    exact ⟨rfl, HB1.out⟩
  have q2 : decide (2147483647 < (cp.size : Int)) = false := decide_eq_false c2
  have KA := Lib.hid (add_none ⟨a, k, p⟩ (.pointer none) W1 (noneB_nil W1))
  go_enter Tryd.func5, Tryd.ntmps5
  go_wp2_with fail
  rw [HW.out] at x0 x1 x2 y0 y1 ⊢
  refine KA.out.mono ?_
  rintro e w2 ⟨rfl, hB⟩
  have HB2 := Lib.hid (below_step HB1.out hB)
  have z1 := blkK HZ.out.1 hB
  have z2 := blkK HZ.out.2 hB
  have HZ2 := Lib.hid (And.intro z1 z2)
  have y0 := cell_rowK (k := 0) (v := .int .i8 ck) z2 rfl
  have y1 := cell_rowK (k := 1) (v := .string cp) z2 rfl
  have KF := Lib.hid (fire_none none ck cp w2 (noneB_nil w2))
  clear hB KA z1 z2 x0 x1 x2 q1 q2
  go_wp2_with fail
  refine KF.out.mono ?_
  rintro e w3 ⟨rfl, hB⟩
  have HB3 := Lib.hid (below_step HB2.out hB)
  have z1 := blkK HZ2.out.1 hB
  have HZ3 := Lib.hid z1
  have x0 := cell_rowK (k := 0) (v := .int .i64 a) z1 rfl
  have KD := Lib.hid (drop_none none a w3 (noneB_nil w3))
  clear hB KF z1 y0 y1 HZ2
  go_wp2_with fail
  refine KD.out.mono ?_
  rintro e w4 ⟨rfl, hB⟩
  have HB4 := Lib.hid (below_step HB3.out hB)
  have HZ4 := Lib.hid (blkK HZ3.out hB)
  have KC := Lib.hid (clear_none none w4 (noneB_nil w4))
  clear hB KD x0 HZ3
  go_wp2_with fail
  refine KC.out.mono ?_
  rintro e w5 ⟨rfl, hB⟩
  have HB5 := Lib.hid (below_step HB4.out hB)
  have HZ5 := Lib.hid (blkK HZ4.out hB)
  have KL := Lib.hid (all_none none w5 (noneB_nil w5))
  clear hB KC HZ4
  go_wp2_with fail
  refine KL.out.mono ?_
  rintro e w6 ⟨rfl, hB⟩
  have HB6 := Lib.hid (below_step HB5.out hB)
  have HZ6 := Lib.hid (blkK HZ5.out hB)
  clear hB KL HZ5
  obtain ⟨W7, hW7⟩ : ∃ V, w6.alloc (.cells #[.bool false, .map none, .int .i64 0] 51) = V := ⟨_, rfl⟩
  have hB7 : Below w6.heap.size w6 W7 := by rw [← hW7]; exact below_alloc (Below.refl _ _) _
  have hpl : W7.heap[w6.heap.size]? = some (.cells #[.bool false, .map none, .int .i64 0] 51 (0, 0)) := by rw [← hW7]; exact World.alloc_heap_new w6 _
  have z7 := blkK HZ6.out hB7
  have x0 := cell_rowK (k := 0) (v := .int .i64 a) z7 rfl
  have x1 := cell_rowK (k := 1) (v := .int .i8 k) z7 rfl
  have x2 := cell_rowK (k := 2) (v := .string p) z7 rfl
  have HB7 := Lib.hid (below_step HB6.out hB7)
  have HPL := Lib.hid hpl
  have KA := Lib.hid (add_none ⟨a, k, p⟩ (.pointer (some ⟨w6.heap.size, 0, none⟩)) W7 (noneB_plain hpl rfl))
  have HW7 := Lib.hid hW7
  rw [← hW7] at x0 x1 x2
  clear hB7 hpl z7 hW7 HZ6
  go_wp2_with fail
  rw [HW7.out]
  refine KA.out.mono ?_
  rintro e w8 ⟨rfl, hB⟩
  have HB8 := Lib.hid (below_step HB7.out hB)
  have KL := Lib.hid (all_none (some ⟨w6.heap.size, 0, none⟩) w8 (noneB_plain (blkK HPL.out hB) rfl))
  clear hB KA x0 x1 x2
  go_wp2_with fail
  refine KL.out.mono ?_
  rintro e w9 ⟨rfl, hB⟩
  have HB9 := Lib.hid (below_step HB8.out hB)
  have KV := Lib.hid (lives_calls w9 (tabs_from HT.out HB9.out))
  clear hB KL
  go_wp2_with fail
  refine KV.out.mono ?_
  rintro e w10 ⟨rfl, hB⟩
  have HB10 := Lib.hid (below_step HB9.out hB)
  clear hB KV
  go_wp2
  go_ret
  exact ⟨rfl, HB10.out⟩
end Go.Proofs.YtkhnjckkjdldbaaDoor.Q
