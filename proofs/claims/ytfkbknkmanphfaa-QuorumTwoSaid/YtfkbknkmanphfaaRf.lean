import Derived.Test.YtfkbknkmanphfaaRe
namespace Go.Proofs.Ytfkbknkmanphfaa.Q
open Go.RowKit Go.Proofs.YtfkbknkmanphfaaW.PrintWords Go.Sort
set_option linter.unusedVariables false
set_option linter.unusedSimpArgs false
variable {M : Nat}

theorem racks_stored {w : World} {a r hb ub : Nat} {ws gs : List Int} {f : Nat → Ak} (h : RAcks M w a r hb ub ws gs f) (m : Nat) (hm : m < ws.length) (ze zn : Int) (hc : (f m).s = false ∨ cmpZ (f m).e (f m).n ze zn < 0) :
    RAcks M ((((w.setCell ⟨hb, m, none⟩ (.bool true)).drew).setCell ⟨ub, m * 2, none⟩ (.int .u32 ze)).setCell ⟨ub, m * 2 + 1, none⟩ (.int .u32 zn)) a r hb ub ws gs (putA f m ze zn) ∧
    Only (fun k => k = hb ∨ k = ub) w ((((w.setCell ⟨hb, m, none⟩ (.bool true)).drew).setCell ⟨ub, m * 2, none⟩ (.int .u32 ze)).setCell ⟨ub, m * 2 + 1, none⟩ (.int .u32 zn)) := by
  obtain ⟨hs, ⟨hc', uc, ch, cu, b1, b2, b3, hv⟩, ho⟩ := h
  have n1 := blocks_ne b1 b2 (by decide)
  have n2 := blocks_ne b1 b3 (by decide)
  have n3 := blocks_ne b2 b3 (by decide)
  have hO : Only (fun k => k = hb ∨ k = ub) w ((((w.setCell ⟨hb, m, none⟩ (.bool true)).drew).setCell ⟨ub, m * 2, none⟩ (.int .u32 ze)).setCell ⟨ub, m * 2 + 1, none⟩ (.int .u32 zn)) :=
    ((((Only.refl _ w).setCell (p := ⟨hb, m, none⟩) (.inl (.inl rfl)) _).drew).setCell (p := ⟨ub, m * 2, none⟩) (.inl (.inr rfl)) _).setCell (p := ⟨ub, m * 2 + 1, none⟩) (.inl (.inr rfl)) _
  refine ⟨⟨hs.keep (fun k _ hk => hO.block k (Nat.lt_of_le_of_lt hk hs.lt) (by omega)), ⟨hc', uc, ch.setIfInBounds m (.bool true), (cu.setIfInBounds (m * 2) (.int .u32 ze)).setIfInBounds (m * 2 + 1) (.int .u32 zn), ?_, ?_, ?_, fun i hi => ?_⟩, ho⟩, hO⟩
  · exact (hO.block a (Array.getElem?_eq_some_iff.1 b1).1 (by omega)).trans b1
  · rw [heap_setCell_other _ _ _ _ (by simp; omega), heap_setCell_other _ _ _ _ (by simp; omega)]
    exact heap_setCell_same _ _ _ _ _ _ b2
  · have b4 : ((w.setCell ⟨hb, m, none⟩ (.bool true)).drew).heap[ub]? = some (.cells cu 44 (0, 0)) := by
      show (w.setCell ⟨hb, m, none⟩ (.bool true)).heap[ub]? = _
      rw [heap_setCell_other _ _ _ _ (by simp; omega)]; exact b3
    exact heap_setCell_same _ _ _ _ _ _ (heap_setCell_same _ _ _ _ _ _ b4)
  · obtain ⟨v0, v1, v2⟩ := hv i hi
    have l0 := (Array.getElem?_eq_some_iff.1 v0).1
    have l2 := (Array.getElem?_eq_some_iff.1 v2).1
    by_cases e : i = m
    · subst e
      have hp : putA f i ze zn i = ⟨true, ze, zn⟩ := by simp [putA, hc]
      rw [hp]
      refine ⟨?_, ?_, ?_⟩
      · rw [Array.getElem?_setIfInBounds_self_of_lt l0]
      · rw [Array.getElem?_setIfInBounds_ne (by omega), Array.getElem?_setIfInBounds_self_of_lt (by omega)]
      · rw [Array.getElem?_setIfInBounds_self_of_lt (by simp; omega)]
    · have hp : putA f m ze zn i = f i := by simp [putA, e]
      rw [hp]
      refine ⟨?_, ?_, ?_⟩
      · rw [Array.getElem?_setIfInBounds_ne (by omega)]; exact v0
      · rw [Array.getElem?_setIfInBounds_ne (by omega), Array.getElem?_setIfInBounds_ne (by omega)]; exact v1
      · rw [Array.getElem?_setIfInBounds_ne (by omega), Array.getElem?_setIfInBounds_ne (by omega)]; exact v2
theorem racks_frozen {w : World} {a r hb ub : Nat} {ws gs : List Int} {f : Nat → Ak} (h : RAcks M w a r hb ub ws gs f) : (∀ j, w.frozen? ⟨hb, j, none⟩ = false) ∧ ∀ j, w.frozen? ⟨ub, j, none⟩ = false := by
  obtain ⟨hs, ⟨hc, uc, ch, cu, b1, b2, b3, hv⟩, _⟩ := h
  exact ⟨fun j => frozen_of_row w hb j _ _ b2, fun j => frozen_of_row w ub j _ _ b3⟩

set_option maxHeartbeats 4000000 in
theorem putR_no (a r hb ub : Nat) (ws gs : List Int) (f : Nat → Ak) (w : World) (h : RAcks M w a r hb ub ws gs f) (n ze zn : Int) (hn : -128 ≤ n ∧ n ≤ 127) (hv : validB ws n = false) :
    Calls Try.prog 15 #[.pointer (some ⟨a, 0, none⟩), .int .i8 n, .agg #[.int .u32 ze, .int .u32 zn]] w fun e w' => e = .returned (.int .i64 1) ∧ Below w.heap.size w w' := by
  have HB := Lib.hid (below_alloc (Below.refl w.heap.size w) (.cells #[.int .u32 ze, .int .u32 zn] 44))
  obtain ⟨hc, uc, a0, a1, a2, hv'⟩ := racks_cells (h.below HB.out)
  have K := calls_eq (isR r ws gs _ (h.below HB.out).sys n hn) (congrArg Value.bool hv)
  clear h a1 a2 hv'
  go_enter Try.func15, Try.ntmps15
  go_wp2_with fail
  refine K.out.mono ?_
  rintro e w' ⟨rfl, rfl⟩
  go_wp2
  go_ret
  exact ⟨rfl, HB.out⟩

set_option maxHeartbeats 4000000 in
theorem putR_yes (a r hb ub : Nat) (ws gs : List Int) (f : Nat → Ak) (w : World) (h : RAcks M w a r hb ub ws gs f) (m : Nat) (ze zn : Int) (hm : m < ws.length) :
    Calls Try.prog 15 #[.pointer (some ⟨a, 0, none⟩), .int .i8 m, .agg #[.int .u32 ze, .int .u32 zn]] w fun e w' => e = .returned (.int .i64 0) ∧ Only (fun k => k = hb ∨ k = ub) w w' ∧ RAcks M w' a r hb ub ws gs (putA f m ze zn) := by
  have h7 := h.sys.v.le7
  have hB := below_alloc (Below.refl w.heap.size w) (Obj.cells #[Value.int .u32 ze, Value.int .u32 zn] 44)
  have hZ := heap_alloc_new w (Obj.cells #[Value.int .u32 ze, Value.int .u32 zn] 44)
  obtain ⟨W, hW⟩ : ∃ W, w.alloc (Obj.cells #[Value.int .u32 ze, Value.int .u32 zn] 44) = W := ⟨_, rfl⟩
  rw [hW] at hB hZ
  have HW := Lib.hid hW
  have HB := Lib.hid hB
  have HZ := Lib.hid hZ
  have HA := Lib.hid (h.below hB)
  have K := calls_eq (isR r ws gs _ HA.out.sys m (by omega)) (congrArg Value.bool (show validB ws (m : Int) = true by simp [validB]; omega))
  clear hW hB hZ h
  obtain ⟨hc', uc, a0, a1, a2, hv⟩ := racks_cells HA.out
  obtain ⟨v0, v1, v2⟩ := hv m hm
  obtain ⟨z0, z1⟩ := box44 HZ.out
  have k0 := cell_regrown a0
  have k1 := cell_regrown a1
  have k2 := cell_regrown a2
  have k3 := cell_regrown v0
  have k4 := cell_regrown v1
  have k5 := cell_regrown v2
  have k6 := cell_regrown z0
  have k7 := cell_regrown z1
  have HST : Hid (∀ w2, Below W.heap.size W w2 → (f m).s = false ∨ cmpZ (f m).e (f m).n ze zn < 0 → RAcks M ((((w2.setCell ⟨hb, m, none⟩ (.bool true)).drew).setCell ⟨ub, m * 2, none⟩ (.int .u32 ze)).setCell ⟨ub, m * 2 + 1, none⟩ (.int .u32 zn)) a r hb ub ws gs (putA f m ze zn) ∧
      Only (fun k => k = hb ∨ k = ub) w ((((w2.setCell ⟨hb, m, none⟩ (.bool true)).drew).setCell ⟨ub, m * 2, none⟩ (.int .u32 ze)).setCell ⟨ub, m * 2 + 1, none⟩ (.int .u32 zn))) := Lib.hid (fun w2 hb2 hc => by
    obtain ⟨r1, r2⟩ := racks_stored (HA.out.below hb2) m hm ze zn hc
    exact ⟨r1, ((Only.of_below HB.out).then_below hb2).trans r2 (fun _ _ e => e)⟩)
  have HNO : Hid (¬ ((f m).s = false ∨ cmpZ (f m).e (f m).n ze zn < 0) → putA f m ze zn = f) := Lib.hid (putA_no f m ze zn)
  obtain ⟨x, hx⟩ : ∃ x, f m = x := ⟨_, rfl⟩
  rw [hx] at k3 k4 k5 HST HNO
  obtain ⟨xs, xe, xn⟩ := x
  dsimp only at k3 k4 k5
  clear v0 v1 v2 z0 z1 hv hx
  cases xs with
  | true =>
    by_cases hc : cmpZ xe xn ze zn < 0
    · skip
      have c18 : ∀ d os, Calls Try.prog 18 #[.agg #[.int .u32 xe, .int .u32 xn], .agg #[.int .u32 ze, .int .u32 zn]] (grow (redrawn W d) os) fun e w'' => e = .returned (.int .i64 (cmpZ xe xn ze zn)) ∧ ∃ p : Regrown, w'' = grow (redrawn W p.d) p.os := fun d os => Calls.regrown_of (cmpR_calls xe xn ze zn _)
      have a0r := a0
      rw [← HW.out] at a0r
      go_enter Try.func15, Try.ntmps15
      go_wp2_with fail
      rw [HW.out]
      refine K.out.mono ?_
      rintro e w' ⟨rfl, rfl⟩
      go_wp2_with fail
      refine wp_region_quiet_below (by kernel_rfl) (by kernel_rfl) ?_
      repeat (go_big_quiet_step (exact c18 _ _))
      refine wpQuiet_nil ?_
      intro _ hw'
      obtain ⟨⟨dq, osq⟩, hw''⟩ := hw'
      subst hw''
      have HB4 := Lib.hid (below_regrown W dq osq)
      have HA4 := Lib.hid (HA.out.below HB4.out)
      have HZ4 := Lib.hid (regrown_heap HZ.out dq osq)
      generalize grow (redrawn W dq) osq = W4 at *
      clear c18 k0 k1 k2 k3 k4 k5 k6 k7 K
      have HF := Lib.hid (HST.out W4 HB4.out (.inr hc))
      obtain ⟨_, _, a0', a1', a2', _⟩ := racks_cells HA4.out
      have fz := (racks_frozen HA4.out).1 m
      have fu := fun j => (racks_frozen HA4.out).2 j
      have ne1 : hb ≠ a := by obtain ⟨_, ⟨_, _, _, _, b1, b2, b3, _⟩, _⟩ := HA4.out; exact blocks_ne b2 b1 (by decide)
      have ne2 : hb ≠ ub := by obtain ⟨_, ⟨_, _, _, _, b1, b2, b3, _⟩, _⟩ := HA4.out; exact blocks_ne b2 b3 (by decide)
      have ne3 : hb ≠ w.heap.size := by obtain ⟨_, ⟨_, _, _, _, b1, b2, b3, _⟩, _⟩ := HA4.out; exact blocks_ne b2 HZ4.out (by decide)
      obtain ⟨v0, v1, v2⟩ := (racks_cells HA4.out).elim (fun _ h => h.elim (fun _ h => h.2.2.2 m hm))
      obtain ⟨z0, z1⟩ := box44 HZ4.out
      have q2 : (W4.setCell ⟨hb, m, none⟩ (.bool true)).cell? ⟨a, 2, none⟩ = _ := (World.cell?_setCell_other _ _ _ _ (by simp [ne1])).trans a2'
      have q6 : (W4.setCell ⟨hb, m, none⟩ (.bool true)).cell? ⟨w.heap.size, 0, none⟩ = some (.int .u32 ze) := (World.cell?_setCell_other _ _ _ _ (by simp [ne3])).trans z0
      have q7 : (W4.setCell ⟨hb, m, none⟩ (.bool true)).cell? ⟨w.heap.size, 1, none⟩ = some (.int .u32 zn) := (World.cell?_setCell_other _ _ _ _ (by simp [ne3])).trans z1
      have u1 : (W4.setCell ⟨hb, m, none⟩ (.bool true)).cell? ⟨ub, m * 2, none⟩ = _ := (World.cell?_setCell_other _ _ _ _ (by simp [ne2])).trans v1
      have u2 : (W4.setCell ⟨hb, m, none⟩ (.bool true)).cell? ⟨ub, m * 2 + 1, none⟩ = _ := (World.cell?_setCell_other _ _ _ _ (by simp [ne2])).trans v2
      have fr1 : (W4.setCell ⟨hb, m, none⟩ (.bool true)).frozen? ⟨ub, m * 2, none⟩ = false := by rw [World.frozen?_setCell]; exact fu _
      have fr2 : (W4.setCell ⟨hb, m, none⟩ (.bool true)).frozen? ⟨ub, m * 2 + 1, none⟩ = false := by rw [World.frozen?_setCell]; exact fu _
      clear fu ne1 ne2 ne3
      go_wp2_with fail
      obtain ⟨W5, hW5⟩ : ∃ W5, W4.setCell ⟨hb, m, none⟩ (.bool true) = W5 := ⟨_, rfl⟩
      rw [hW5] at q2 q6 q7 u1 u2 fr1 fr2 HF ⊢
      clear hW5
      go_still_tail 7, (by kernel_rfl)
      change wpList _ _ _ _ _ W5.drew
      go_wp2
      go_ret
      exact ⟨rfl, HF.out.2, HF.out.1⟩
    · skip
      have c18 : ∀ d os, Calls Try.prog 18 #[.agg #[.int .u32 xe, .int .u32 xn], .agg #[.int .u32 ze, .int .u32 zn]] (grow (redrawn W d) os) fun e w'' => e = .returned (.int .i64 (cmpZ xe xn ze zn)) ∧ ∃ p : Regrown, w'' = grow (redrawn W p.d) p.os := fun d os => Calls.regrown_of (cmpR_calls xe xn ze zn _)
      have a0r := a0
      rw [← HW.out] at a0r
      go_enter Try.func15, Try.ntmps15
      go_wp2_with fail
      rw [HW.out]
      refine K.out.mono ?_
      rintro e w' ⟨rfl, rfl⟩
      go_wp2_with fail
      refine wp_region_quiet_below (by kernel_rfl) (by kernel_rfl) ?_
      repeat (go_big_quiet_step (exact c18 _ _))
      refine wpQuiet_nil ?_
      intro _ hw'
      obtain ⟨⟨dq, osq⟩, hw''⟩ := hw'
      subst hw''
      have HB4 := Lib.hid (below_regrown W dq osq)
      have HA4 := Lib.hid (HA.out.below HB4.out)
      have HZ4 := Lib.hid (regrown_heap HZ.out dq osq)
      generalize grow (redrawn W dq) osq = W4 at *
      clear c18 k0 k1 k2 k3 k4 k5 k6 k7 K
      have HF := Lib.hid (HNO.out (by simp; omega))
      go_wp2
      go_ret
      exact ⟨rfl, (Only.of_below HB.out).then_below HB4.out, by rw [HF.out]; exact HA4.out⟩
  | false =>
    have a0r := a0
    rw [← HW.out] at a0r
    go_enter Try.func15, Try.ntmps15
    go_wp2_with fail
    rw [HW.out]
    refine K.out.mono ?_
    rintro e w' ⟨rfl, rfl⟩
    go_wp2_with fail
    refine wp_region_quiet_below (by kernel_rfl) (by kernel_rfl) ?_
    repeat (go_big_quiet_step (fail))
    refine wpQuiet_nil ?_
    intro _ hw'
    obtain ⟨⟨dq, osq⟩, hw''⟩ := hw'
    subst hw''
    have HB4 := Lib.hid (below_regrown W dq osq)
    have HA4 := Lib.hid (HA.out.below HB4.out)
    have HZ4 := Lib.hid (regrown_heap HZ.out dq osq)
    generalize grow (redrawn W dq) osq = W4 at *
    clear k0 k1 k2 k3 k4 k5 k6 k7 K
    have HF := Lib.hid (HST.out W4 HB4.out (.inl trivial))
    obtain ⟨_, _, a0', a1', a2', _⟩ := racks_cells HA4.out
    have fz := (racks_frozen HA4.out).1 m
    have fu := fun j => (racks_frozen HA4.out).2 j
    have ne1 : hb ≠ a := by obtain ⟨_, ⟨_, _, _, _, b1, b2, b3, _⟩, _⟩ := HA4.out; exact blocks_ne b2 b1 (by decide)
    have ne2 : hb ≠ ub := by obtain ⟨_, ⟨_, _, _, _, b1, b2, b3, _⟩, _⟩ := HA4.out; exact blocks_ne b2 b3 (by decide)
    have ne3 : hb ≠ w.heap.size := by obtain ⟨_, ⟨_, _, _, _, b1, b2, b3, _⟩, _⟩ := HA4.out; exact blocks_ne b2 HZ4.out (by decide)
    obtain ⟨v0, v1, v2⟩ := (racks_cells HA4.out).elim (fun _ h => h.elim (fun _ h => h.2.2.2 m hm))
    obtain ⟨z0, z1⟩ := box44 HZ4.out
    have q2 : (W4.setCell ⟨hb, m, none⟩ (.bool true)).cell? ⟨a, 2, none⟩ = _ := (World.cell?_setCell_other _ _ _ _ (by simp [ne1])).trans a2'
    have q6 : (W4.setCell ⟨hb, m, none⟩ (.bool true)).cell? ⟨w.heap.size, 0, none⟩ = some (.int .u32 ze) := (World.cell?_setCell_other _ _ _ _ (by simp [ne3])).trans z0
    have q7 : (W4.setCell ⟨hb, m, none⟩ (.bool true)).cell? ⟨w.heap.size, 1, none⟩ = some (.int .u32 zn) := (World.cell?_setCell_other _ _ _ _ (by simp [ne3])).trans z1
    have u1 : (W4.setCell ⟨hb, m, none⟩ (.bool true)).cell? ⟨ub, m * 2, none⟩ = _ := (World.cell?_setCell_other _ _ _ _ (by simp [ne2])).trans v1
    have u2 : (W4.setCell ⟨hb, m, none⟩ (.bool true)).cell? ⟨ub, m * 2 + 1, none⟩ = _ := (World.cell?_setCell_other _ _ _ _ (by simp [ne2])).trans v2
    have fr1 : (W4.setCell ⟨hb, m, none⟩ (.bool true)).frozen? ⟨ub, m * 2, none⟩ = false := by rw [World.frozen?_setCell]; exact fu _
    have fr2 : (W4.setCell ⟨hb, m, none⟩ (.bool true)).frozen? ⟨ub, m * 2 + 1, none⟩ = false := by rw [World.frozen?_setCell]; exact fu _
    clear fu ne1 ne2 ne3
    go_wp2_with fail
    obtain ⟨W5, hW5⟩ : ∃ W5, W4.setCell ⟨hb, m, none⟩ (.bool true) = W5 := ⟨_, rfl⟩
    rw [hW5] at q2 q6 q7 u1 u2 fr1 fr2 HF ⊢
    clear hW5
    go_still_tail 7, (by kernel_rfl)
    change wpList _ _ _ _ _ W5.drew
    go_wp2
    go_ret
    exact ⟨rfl, HF.out.2, HF.out.1⟩
end Go.Proofs.Ytfkbknkmanphfaa.Q
