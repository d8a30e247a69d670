import Derived.Test.YtfkbknkmanphfaaRf
namespace Go.Proofs.Ytfkbknkmanphfaa.Q
open Go.RowKit Go.Proofs.YtfkbknkmanphfaaW.PrintWords Go.Sort
set_option linter.unusedVariables false
set_option linter.unusedSimpArgs false
variable {M : Nat}

theorem putR_any (a r hb ub : Nat) (ws gs : List Int) (f : Nat → Ak) (w : World) (h : RAcks M w a r hb ub ws gs f) (p : Pt) (hp : -128 ≤ p.s ∧ p.s ≤ 127) :
    Calls Try.prog 15 #[.pointer (some ⟨a, 0, none⟩), .int .i8 p.s, .agg #[.int .u32 p.e, .int .u32 p.n]] w fun e w' => (∃ x, e = .returned (.int .i64 x)) ∧ Only (fun k => k = hb ∨ k = ub) w w' ∧ RAcks M w' a r hb ub ws gs (putX ws f p) := by
  cases hv : validB ws p.s with
  | false =>
    refine (putR_no a r hb ub ws gs f w h p.s p.e p.n hp hv).mono ?_
    rintro e w' ⟨rfl, hB⟩
    refine ⟨⟨_, rfl⟩, Only.of_below hB, ?_⟩
    unfold putX
    rw [hv]
    exact h.below hB
  | true =>
    have hv2 : 0 ≤ p.s ∧ p.s < ws.length := by simpa [validB] using hv
    obtain ⟨m, hm⟩ := Int.eq_ofNat_of_zero_le hv2.1
    have K := putR_yes a r hb ub ws gs f w h m p.e p.n (by omega)
    rw [← hm] at K
    refine K.mono ?_
    rintro e w' ⟨rfl, hO, hk⟩
    refine ⟨⟨_, rfl⟩, hO, ?_⟩
    unfold putX
    rw [hv, if_pos rfl, show p.s.toNat = m by omega]
    exact hk

theorem below_calls {P : Program} {f : FuncId} {args : Array Value} {w : World} {v : Value} (h : Calls P f args w fun e w' => e = .returned v ∧ w = w') : Calls P f args w fun e w' => e = .returned v ∧ Below w.heap.size w w' :=
  h.mono (fun e w' ⟨h1, h2⟩ => ⟨h1, by subst h2; exact Below.refl _ _⟩)
theorem hasE {ws gs : List Int} {s : Int} {b : Bool} (x : Int) (h : hasB ws gs (inS x) = b) : hasB ws gs (inS x) = b := h

set_option maxHeartbeats 8000000 in
theorem committedR (a r hb ub : Nat) (ws gs : List Int) (f : Nat → Ak) (w : World) (h : RAcks M w a r hb ub ws gs f) (hf : Fin ws f) :
    Calls Try.prog 17 #[.pointer (some ⟨a, 0, none⟩)] w fun e w' => e = .returned (.tuple #[.agg #[.int .u32 (bestTo ws gs f 7).e, .int .u32 (bestTo ws gs f 7).n], .bool (bestTo ws gs f 7).s]) ∧ Below w.heap.size w w' := by
  have h7 := h.sys.v.le7
  have HA := Lib.hid h
  have HEQ := Lib.hid (bestTo_fin (gs := gs) hf h7)
  have HF := Lib.hid hf
  have HBB := Lib.hid (below_alloc (below_alloc (Below.refl w.heap.size w) (Obj.cells #[Value.int .u32 0, Value.int .u32 0] 44)) (Obj.cells #[Value.int .u32 0, Value.int .u32 0] 44))
  have HR := Lib.hid (heap_alloc2_old w (Obj.cells #[Value.int .u32 0, Value.int .u32 0] 44) (Obj.cells #[Value.int .u32 0, Value.int .u32 0] 44))
  have HK := Lib.hid (heap_alloc2_new w (Obj.cells #[Value.int .u32 0, Value.int .u32 0] 44) (Obj.cells #[Value.int .u32 0, Value.int .u32 0] 44))
  have HSZ : Hid (w.heap.size + 2 ≤ ((w.alloc (Obj.cells #[Value.int .u32 0, Value.int .u32 0] 44)).alloc (Obj.cells #[Value.int .u32 0, Value.int .u32 0] 44)).heap.size) := Lib.hid (by simp)
  clear h hf
  go_enter Try.func17, Try.ntmps17
  go_wp2
  go_loopw [5, 6] (fun s t wr => ∃ k : Nat, k ≤ ws.length ∧ t = .int .i64 k ∧ s = .bool (bestTo ws gs f k).s ∧ Hid (wr.heap[w.heap.size]? = some (.cells #[Value.int .u32 0, Value.int .u32 0] 44 (0, 0))) ∧ Hid (wr.heap[w.heap.size + 1]? = some (.cells #[.int .u32 (bestTo ws gs f k).e, .int .u32 (bestTo ws gs f k).n] 44 (0, 0))) ∧ Hid (Below w.heap.size w wr) ∧ Hid (w.heap.size + 2 ≤ wr.heap.size)) (fun _ t _ => ws.length - (intOf t).toNat)
  case atStart => exact ⟨0, by omega, rfl, rfl, HR, HK, HBB, HSZ⟩
  case round =>
    clear HR HK HBB HSZ
    obtain ⟨k, hk, rfl, rfl, HR, HK, HB, HSZ⟩ := hrel
    obtain ⟨hc, uc, a0, a1, a2, hv⟩ := racks_cells (HA.out.below HB.out)
    by_cases hlt : k < ws.length
    · obtain ⟨v0, v1, v2⟩ := hv k hlt
      have hBx := below_alloc (Below.refl wr.heap.size wr) (Obj.cells #[Value.int .u32 (f k).e, Value.int .u32 (f k).n] 44)
      have hX := heap_alloc_new wr (Obj.cells #[Value.int .u32 (f k).e, Value.int .u32 (f k).n] 44)
      have hszx : (wr.alloc (Obj.cells #[Value.int .u32 (f k).e, Value.int .u32 (f k).n] 44)).heap.size = wr.heap.size + 1 := by simp
      obtain ⟨W2, hW2⟩ : ∃ W2, wr.alloc (Obj.cells #[Value.int .u32 (f k).e, Value.int .u32 (f k).n] 44) = W2 := ⟨_, rfl⟩
      rw [hW2] at hBx hX hszx
      have HAll := Lib.hid (below_then HB.out HB.out.size hBx)
      have HA2 := Lib.hid (HA.out.below HAll.out)
      have HSX := Lib.hid (show w.heap.size + 2 ≤ W2.heap.size by have := HSZ.out; omega)
      have HR2 := Lib.hid (keepb HR.out hBx)
      have HB2 := Lib.hid (keepb HK.out hBx)
      have HF7 : Hid (∀ e n, setTo f e n 7 = setTo f e n ws.length) := Lib.hid (fun e n => setTo_fin HF.out e n h7)
      have HT : Hid (bestTo ws gs f (k + 1) = bestStep ws gs f (bestTo ws gs f k) (f k)) := rfl
      obtain ⟨best, hbest⟩ : ∃ x, bestTo ws gs f k = x := ⟨_, rfl⟩
      obtain ⟨x, hxx⟩ : ∃ x, f k = x := ⟨_, rfl⟩
      rw [hxx] at v0 v1 v2 hW2 hX HT
      rw [hbest] at HB2 HT HK ⊢
      have HX2 := Lib.hid hX
      have HW2 := Lib.hid hW2
      have A0 := pw_cell_below hBx a0
      have A1 := pw_cell_below hBx a1
      have V0 := pw_cell_below hBx v0
      obtain ⟨xs, xe, xn⟩ := x
      obtain ⟨bs, be, bn⟩ := best
      dsimp only at v0 v1 v2 HX2 HW2 HB2 V0 HK ⊢
      clear hX hW2 hszx hBx hbest hxx HR hv HK v0
      replace HF7 : Hid (setTo f xe xn 7 = setTo f xe xn ws.length) := Lib.hid (HF7.out xe xn)
      cases xs with
      | false =>
        
        cases bs with
        | false =>
          have HC : Hid (bestStep ws gs f ⟨false, be, bn⟩ ⟨false, xe, xn⟩ = ⟨false, be, bn⟩) := Lib.hid (by unfold bestStep; simp [])
          go_wp2_with fail
          rw [HW2.out]
          have ka := cell_regrown A0
          have kh := cell_regrown A1
          have kv := cell_regrown V0
          have kx0 := cell_regrown (box44 HX2.out).1
          have kx1 := cell_regrown (box44 HX2.out).2
          have kb0 := cell_regrown (box44 HB2.out).1
          have kb1 := cell_regrown (box44 HB2.out).2
          refine wp_region_quiet_below (by kernel_rfl) (by kernel_rfl) ?_
          repeat (go_big_quiet_step (fail))
          refine wpQuiet_nil ?_
          intro _ hw'
          obtain ⟨⟨dq, osq⟩, hw''⟩ := hw'
          subst hw''
          have HBel := Lib.hid (below_then HAll.out HAll.out.size (below_regrown W2 dq osq))
          have HBk := Lib.hid (regrown_heap HB2.out dq osq)
          have HRk := Lib.hid (regrown_heap HR2.out dq osq)
          have HXk := Lib.hid (regrown_heap HX2.out dq osq)
          have HSk : Hid (w.heap.size + 2 ≤ (grow (redrawn W2 dq) osq).heap.size) := Lib.hid (by have := (below_regrown W2 dq osq).size; have := HSX.out; omega)
          generalize grow (redrawn W2 dq) osq = W4 at *
          clear ka kh kv kx0 kx1 kb0 kb1 
          go_wp2
          exact ⟨⟨k + 1, by omega, by go_num, by rw [HT.out, HC.out], HRk, by rw [HT.out, HC.out]; exact HBk, HBel, HSk⟩, by simp [intOf]; omega⟩
        | true =>
          have HC : Hid (bestStep ws gs f ⟨true, be, bn⟩ ⟨false, xe, xn⟩ = ⟨true, be, bn⟩) := Lib.hid (by unfold bestStep; simp [])
          go_wp2_with fail
          rw [HW2.out]
          have ka := cell_regrown A0
          have kh := cell_regrown A1
          have kv := cell_regrown V0
          have kx0 := cell_regrown (box44 HX2.out).1
          have kx1 := cell_regrown (box44 HX2.out).2
          have kb0 := cell_regrown (box44 HB2.out).1
          have kb1 := cell_regrown (box44 HB2.out).2
          refine wp_region_quiet_below (by kernel_rfl) (by kernel_rfl) ?_
          repeat (go_big_quiet_step (fail))
          refine wpQuiet_nil ?_
          intro _ hw'
          obtain ⟨⟨dq, osq⟩, hw''⟩ := hw'
          subst hw''
          have HBel := Lib.hid (below_then HAll.out HAll.out.size (below_regrown W2 dq osq))
          have HBk := Lib.hid (regrown_heap HB2.out dq osq)
          have HRk := Lib.hid (regrown_heap HR2.out dq osq)
          have HXk := Lib.hid (regrown_heap HX2.out dq osq)
          have HSk : Hid (w.heap.size + 2 ≤ (grow (redrawn W2 dq) osq).heap.size) := Lib.hid (by have := (below_regrown W2 dq osq).size; have := HSX.out; omega)
          generalize grow (redrawn W2 dq) osq = W4 at *
          clear ka kh kv kx0 kx1 kb0 kb1 
          go_wp2
          exact ⟨⟨k + 1, by omega, by go_num, by rw [HT.out, HC.out], HRk, by rw [HT.out, HC.out]; exact HBk, HBel, HSk⟩, by simp [intOf]; omega⟩
      | true =>
        cases hhas : hasB ws gs (inS (setTo f xe xn 7)) with
        | false =>
          cases bs with
          | false =>
            have HC : Hid (bestStep ws gs f ⟨false, be, bn⟩ ⟨true, xe, xn⟩ = ⟨false, be, bn⟩) := Lib.hid (by unfold bestStep; simp [hhas])
            go_wp2_with fail
            rw [HW2.out]
            have ka := cell_regrown A0
            have kh := cell_regrown A1
            have kv := cell_regrown V0
            have kx0 := cell_regrown (box44 HX2.out).1
            have kx1 := cell_regrown (box44 HX2.out).2
            have kb0 := cell_regrown (box44 HB2.out).1
            have kb1 := cell_regrown (box44 HB2.out).2
            have c38 : ∀ d os, Calls Try.prog 38 #[.pointer (some ⟨a, 0, none⟩), .agg #[.int .u32 xe, .int .u32 xn]] (grow (redrawn W2 d) os) fun e w'' => e = .returned (.int .u8 (setTo f xe xn ws.length)) ∧ ∃ p : Regrown, w'' = grow (redrawn W2 p.d) p.os := fun d os => Calls.regrown_of (fromR a r hb ub ws gs f _ (HA2.out.below (below_regrown W2 d os)) xe xn)
            have hh : hasB ws gs (inS (setTo f xe xn ws.length)) = false := by rw [← HF7.out]; exact hhas
            have hbd : 0 ≤ setTo f xe xn ws.length ∧ setTo f xe xn ws.length ≤ 255 := by rw [← HF7.out]; exact setTo_bd f xe xn 7 (by omega)
            have c28 : ∀ d os, Calls Try.prog 28 #[.pointer (some ⟨r, 0, none⟩), .int .u8 (setTo f xe xn ws.length)] (grow (redrawn W2 d) os) fun e w'' => e = .returned (.bool false) ∧ ∃ p : Regrown, w'' = grow (redrawn W2 p.d) p.os := fun d os => Calls.regrown_of ((below_calls (calls_eq (hasR r ws gs _ (HA2.out.below (below_regrown W2 d os)).sys _ hbd) (congrArg Value.bool hh)).out))
            clear hhas hh hbd
            refine wp_region_quiet_below (by kernel_rfl) (by kernel_rfl) ?_
            repeat (go_big_quiet_step (first | exact c38 _ _ | exact c28 _ _))
            refine wpQuiet_nil ?_
            intro _ hw'
            obtain ⟨⟨dq, osq⟩, hw''⟩ := hw'
            subst hw''
            have HBel := Lib.hid (below_then HAll.out HAll.out.size (below_regrown W2 dq osq))
            have HBk := Lib.hid (regrown_heap HB2.out dq osq)
            have HRk := Lib.hid (regrown_heap HR2.out dq osq)
            have HXk := Lib.hid (regrown_heap HX2.out dq osq)
            have HSk : Hid (w.heap.size + 2 ≤ (grow (redrawn W2 dq) osq).heap.size) := Lib.hid (by have := (below_regrown W2 dq osq).size; have := HSX.out; omega)
            generalize grow (redrawn W2 dq) osq = W4 at *
            clear ka kh kv kx0 kx1 kb0 kb1 c38 c28
            go_wp2
            exact ⟨⟨k + 1, by omega, by go_num, by rw [HT.out, HC.out], HRk, by rw [HT.out, HC.out]; exact HBk, HBel, HSk⟩, by simp [intOf]; omega⟩
          | true =>
            have HC : Hid (bestStep ws gs f ⟨true, be, bn⟩ ⟨true, xe, xn⟩ = ⟨true, be, bn⟩) := Lib.hid (by unfold bestStep; simp [hhas])
            go_wp2_with fail
            rw [HW2.out]
            have ka := cell_regrown A0
            have kh := cell_regrown A1
            have kv := cell_regrown V0
            have kx0 := cell_regrown (box44 HX2.out).1
            have kx1 := cell_regrown (box44 HX2.out).2
            have kb0 := cell_regrown (box44 HB2.out).1
            have kb1 := cell_regrown (box44 HB2.out).2
            have c38 : ∀ d os, Calls Try.prog 38 #[.pointer (some ⟨a, 0, none⟩), .agg #[.int .u32 xe, .int .u32 xn]] (grow (redrawn W2 d) os) fun e w'' => e = .returned (.int .u8 (setTo f xe xn ws.length)) ∧ ∃ p : Regrown, w'' = grow (redrawn W2 p.d) p.os := fun d os => Calls.regrown_of (fromR a r hb ub ws gs f _ (HA2.out.below (below_regrown W2 d os)) xe xn)
            have hh : hasB ws gs (inS (setTo f xe xn ws.length)) = false := by rw [← HF7.out]; exact hhas
            have hbd : 0 ≤ setTo f xe xn ws.length ∧ setTo f xe xn ws.length ≤ 255 := by rw [← HF7.out]; exact setTo_bd f xe xn 7 (by omega)
            have c28 : ∀ d os, Calls Try.prog 28 #[.pointer (some ⟨r, 0, none⟩), .int .u8 (setTo f xe xn ws.length)] (grow (redrawn W2 d) os) fun e w'' => e = .returned (.bool false) ∧ ∃ p : Regrown, w'' = grow (redrawn W2 p.d) p.os := fun d os => Calls.regrown_of ((below_calls (calls_eq (hasR r ws gs _ (HA2.out.below (below_regrown W2 d os)).sys _ hbd) (congrArg Value.bool hh)).out))
            clear hhas hh hbd
            refine wp_region_quiet_below (by kernel_rfl) (by kernel_rfl) ?_
            repeat (go_big_quiet_step (first | exact c38 _ _ | exact c28 _ _))
            refine wpQuiet_nil ?_
            intro _ hw'
            obtain ⟨⟨dq, osq⟩, hw''⟩ := hw'
            subst hw''
            have HBel := Lib.hid (below_then HAll.out HAll.out.size (below_regrown W2 dq osq))
            have HBk := Lib.hid (regrown_heap HB2.out dq osq)
            have HRk := Lib.hid (regrown_heap HR2.out dq osq)
            have HXk := Lib.hid (regrown_heap HX2.out dq osq)
            have HSk : Hid (w.heap.size + 2 ≤ (grow (redrawn W2 dq) osq).heap.size) := Lib.hid (by have := (below_regrown W2 dq osq).size; have := HSX.out; omega)
            generalize grow (redrawn W2 dq) osq = W4 at *
            clear ka kh kv kx0 kx1 kb0 kb1 c38 c28
            go_wp2
            exact ⟨⟨k + 1, by omega, by go_num, by rw [HT.out, HC.out], HRk, by rw [HT.out, HC.out]; exact HBk, HBel, HSk⟩, by simp [intOf]; omega⟩
        | true =>
          cases bs with
          | false =>
            have HC : Hid (bestStep ws gs f ⟨false, be, bn⟩ ⟨true, xe, xn⟩ = ⟨true, xe, xn⟩) := Lib.hid (by unfold bestStep; simp [hhas])
            go_wp2_with fail
            rw [HW2.out]
            have ka := cell_regrown A0
            have kh := cell_regrown A1
            have kv := cell_regrown V0
            have kx0 := cell_regrown (box44 HX2.out).1
            have kx1 := cell_regrown (box44 HX2.out).2
            have kb0 := cell_regrown (box44 HB2.out).1
            have kb1 := cell_regrown (box44 HB2.out).2
            have c38 : ∀ d os, Calls Try.prog 38 #[.pointer (some ⟨a, 0, none⟩), .agg #[.int .u32 xe, .int .u32 xn]] (grow (redrawn W2 d) os) fun e w'' => e = .returned (.int .u8 (setTo f xe xn ws.length)) ∧ ∃ p : Regrown, w'' = grow (redrawn W2 p.d) p.os := fun d os => Calls.regrown_of (fromR a r hb ub ws gs f _ (HA2.out.below (below_regrown W2 d os)) xe xn)
            have hh : hasB ws gs (inS (setTo f xe xn ws.length)) = true := by rw [← HF7.out]; exact hhas
            have hbd : 0 ≤ setTo f xe xn ws.length ∧ setTo f xe xn ws.length ≤ 255 := by rw [← HF7.out]; exact setTo_bd f xe xn 7 (by omega)
            have c28 : ∀ d os, Calls Try.prog 28 #[.pointer (some ⟨r, 0, none⟩), .int .u8 (setTo f xe xn ws.length)] (grow (redrawn W2 d) os) fun e w'' => e = .returned (.bool true) ∧ ∃ p : Regrown, w'' = grow (redrawn W2 p.d) p.os := fun d os => Calls.regrown_of ((below_calls (calls_eq (hasR r ws gs _ (HA2.out.below (below_regrown W2 d os)).sys _ hbd) (congrArg Value.bool hh)).out))
            clear hhas hh hbd
            refine wp_region_quiet_below (by kernel_rfl) (by kernel_rfl) ?_
            repeat (go_big_quiet_step (first | exact c38 _ _ | exact c28 _ _))
            refine wpQuiet_nil ?_
            intro _ hw'
            obtain ⟨⟨dq, osq⟩, hw''⟩ := hw'
            subst hw''
            have HBel := Lib.hid (below_then HAll.out HAll.out.size (below_regrown W2 dq osq))
            have HBk := Lib.hid (regrown_heap HB2.out dq osq)
            have HRk := Lib.hid (regrown_heap HR2.out dq osq)
            have HXk := Lib.hid (regrown_heap HX2.out dq osq)
            have HSk : Hid (w.heap.size + 2 ≤ (grow (redrawn W2 dq) osq).heap.size) := Lib.hid (by have := (below_regrown W2 dq osq).size; have := HSX.out; omega)
            generalize grow (redrawn W2 dq) osq = W4 at *
            clear ka kh kv kx0 kx1 kb0 kb1 c38 c28
            obtain ⟨y0, y1⟩ := box44 HXk.out
            have fz := fun j => frozen_of_row W4 (w.heap.size + 1) j _ _ HBk.out
            have fz0 := fz 0
            have fz1 := fz 1
            obtain ⟨u0, u1⟩ := box44 HBk.out
            clear fz
            have HST : Hid (((W4.setCell ⟨w.heap.size + 1, 0, none⟩ (.int .u32 xe)).setCell ⟨w.heap.size + 1, 1, none⟩ (.int .u32 xn)).heap[w.heap.size + 1]? = some (.cells #[.int .u32 xe, .int .u32 xn] 44 (0, 0))) := Lib.hid (by
              rw [heap_setCell_same _ _ _ _ _ _ (heap_setCell_same _ _ _ _ _ _ HBk.out)]; simp)
            have HSR : Hid (((W4.setCell ⟨w.heap.size + 1, 0, none⟩ (.int .u32 xe)).setCell ⟨w.heap.size + 1, 1, none⟩ (.int .u32 xn)).heap[w.heap.size]? = some (.cells #[Value.int .u32 0, Value.int .u32 0] 44 (0, 0))) := Lib.hid (by
              rw [heap_setCell_other _ _ _ _ (by simp), heap_setCell_other _ _ _ _ (by simp)]; exact HRk.out)
            go_wp2
            exact ⟨⟨k + 1, by omega, by go_num, by rw [HT.out, HC.out], HSR, by rw [HT.out, HC.out]; exact HST, Lib.hid ((HBel.out.setCell (by simp) _).setCell (by simp) _), Lib.hid (by simp; exact HSk.out)⟩, by simp [intOf]; omega⟩
          | true =>
            by_cases hcm : cmpZ be bn xe xn < 0
            · skip
              have HC : Hid (bestStep ws gs f ⟨true, be, bn⟩ ⟨true, xe, xn⟩ = ⟨true, xe, xn⟩) := Lib.hid (by unfold bestStep; simp [hhas, hcm])
              go_wp2_with fail
              rw [HW2.out]
              have ka := cell_regrown A0
              have kh := cell_regrown A1
              have kv := cell_regrown V0
              have kx0 := cell_regrown (box44 HX2.out).1
              have kx1 := cell_regrown (box44 HX2.out).2
              have kb0 := cell_regrown (box44 HB2.out).1
              have kb1 := cell_regrown (box44 HB2.out).2
              have c38 : ∀ d os, Calls Try.prog 38 #[.pointer (some ⟨a, 0, none⟩), .agg #[.int .u32 xe, .int .u32 xn]] (grow (redrawn W2 d) os) fun e w'' => e = .returned (.int .u8 (setTo f xe xn ws.length)) ∧ ∃ p : Regrown, w'' = grow (redrawn W2 p.d) p.os := fun d os => Calls.regrown_of (fromR a r hb ub ws gs f _ (HA2.out.below (below_regrown W2 d os)) xe xn)
              have hh : hasB ws gs (inS (setTo f xe xn ws.length)) = true := by rw [← HF7.out]; exact hhas
              have hbd : 0 ≤ setTo f xe xn ws.length ∧ setTo f xe xn ws.length ≤ 255 := by rw [← HF7.out]; exact setTo_bd f xe xn 7 (by omega)
              have c28 : ∀ d os, Calls Try.prog 28 #[.pointer (some ⟨r, 0, none⟩), .int .u8 (setTo f xe xn ws.length)] (grow (redrawn W2 d) os) fun e w'' => e = .returned (.bool true) ∧ ∃ p : Regrown, w'' = grow (redrawn W2 p.d) p.os := fun d os => Calls.regrown_of ((below_calls (calls_eq (hasR r ws gs _ (HA2.out.below (below_regrown W2 d os)).sys _ hbd) (congrArg Value.bool hh)).out))
              have c18 : ∀ d os, Calls Try.prog 18 #[.agg #[.int .u32 be, .int .u32 bn], .agg #[.int .u32 xe, .int .u32 xn]] (grow (redrawn W2 d) os) fun e w'' => e = .returned (.int .i64 (cmpZ be bn xe xn)) ∧ ∃ p : Regrown, w'' = grow (redrawn W2 p.d) p.os := fun d os => Calls.regrown_of (cmpR_calls be bn xe xn _)
              clear hhas hh hbd
              refine wp_region_quiet_below (by kernel_rfl) (by kernel_rfl) ?_
              repeat (go_big_quiet_step (first | exact c38 _ _ | exact c28 _ _ | exact c18 _ _))
              refine wpQuiet_nil ?_
              intro _ hw'
              obtain ⟨⟨dq, osq⟩, hw''⟩ := hw'
              subst hw''
              have HBel := Lib.hid (below_then HAll.out HAll.out.size (below_regrown W2 dq osq))
              have HBk := Lib.hid (regrown_heap HB2.out dq osq)
              have HRk := Lib.hid (regrown_heap HR2.out dq osq)
              have HXk := Lib.hid (regrown_heap HX2.out dq osq)
              have HSk : Hid (w.heap.size + 2 ≤ (grow (redrawn W2 dq) osq).heap.size) := Lib.hid (by have := (below_regrown W2 dq osq).size; have := HSX.out; omega)
              generalize grow (redrawn W2 dq) osq = W4 at *
              clear ka kh kv kx0 kx1 kb0 kb1 c38 c28 c18
              obtain ⟨y0, y1⟩ := box44 HXk.out
              have fz := fun j => frozen_of_row W4 (w.heap.size + 1) j _ _ HBk.out
              have fz0 := fz 0
              have fz1 := fz 1
              obtain ⟨u0, u1⟩ := box44 HBk.out
              clear fz
              have HST : Hid (((W4.setCell ⟨w.heap.size + 1, 0, none⟩ (.int .u32 xe)).setCell ⟨w.heap.size + 1, 1, none⟩ (.int .u32 xn)).heap[w.heap.size + 1]? = some (.cells #[.int .u32 xe, .int .u32 xn] 44 (0, 0))) := Lib.hid (by
                rw [heap_setCell_same _ _ _ _ _ _ (heap_setCell_same _ _ _ _ _ _ HBk.out)]; simp)
              have HSR : Hid (((W4.setCell ⟨w.heap.size + 1, 0, none⟩ (.int .u32 xe)).setCell ⟨w.heap.size + 1, 1, none⟩ (.int .u32 xn)).heap[w.heap.size]? = some (.cells #[Value.int .u32 0, Value.int .u32 0] 44 (0, 0))) := Lib.hid (by
                rw [heap_setCell_other _ _ _ _ (by simp), heap_setCell_other _ _ _ _ (by simp)]; exact HRk.out)
              go_wp2
              exact ⟨⟨k + 1, by omega, by go_num, by rw [HT.out, HC.out], HSR, by rw [HT.out, HC.out]; exact HST, Lib.hid ((HBel.out.setCell (by simp) _).setCell (by simp) _), Lib.hid (by simp; exact HSk.out)⟩, by simp [intOf]; omega⟩
            · have hcn := hcm
              have HC : Hid (bestStep ws gs f ⟨true, be, bn⟩ ⟨true, xe, xn⟩ = ⟨true, be, bn⟩) := Lib.hid (by unfold bestStep; dsimp only; rw [if_neg (fun h => by rcases h.2.1 with q | q; (simp at q); exact hcn q)])
              go_wp2_with fail
              rw [HW2.out]
              have ka := cell_regrown A0
              have kh := cell_regrown A1
              have kv := cell_regrown V0
              have kx0 := cell_regrown (box44 HX2.out).1
              have kx1 := cell_regrown (box44 HX2.out).2
              have kb0 := cell_regrown (box44 HB2.out).1
              have kb1 := cell_regrown (box44 HB2.out).2
              have c38 : ∀ d os, Calls Try.prog 38 #[.pointer (some ⟨a, 0, none⟩), .agg #[.int .u32 xe, .int .u32 xn]] (grow (redrawn W2 d) os) fun e w'' => e = .returned (.int .u8 (setTo f xe xn ws.length)) ∧ ∃ p : Regrown, w'' = grow (redrawn W2 p.d) p.os := fun d os => Calls.regrown_of (fromR a r hb ub ws gs f _ (HA2.out.below (below_regrown W2 d os)) xe xn)
              have hh : hasB ws gs (inS (setTo f xe xn ws.length)) = true := by rw [← HF7.out]; exact hhas
              have hbd : 0 ≤ setTo f xe xn ws.length ∧ setTo f xe xn ws.length ≤ 255 := by rw [← HF7.out]; exact setTo_bd f xe xn 7 (by omega)
              have c28 : ∀ d os, Calls Try.prog 28 #[.pointer (some ⟨r, 0, none⟩), .int .u8 (setTo f xe xn ws.length)] (grow (redrawn W2 d) os) fun e w'' => e = .returned (.bool true) ∧ ∃ p : Regrown, w'' = grow (redrawn W2 p.d) p.os := fun d os => Calls.regrown_of ((below_calls (calls_eq (hasR r ws gs _ (HA2.out.below (below_regrown W2 d os)).sys _ hbd) (congrArg Value.bool hh)).out))
              have c18 : ∀ d os, Calls Try.prog 18 #[.agg #[.int .u32 be, .int .u32 bn], .agg #[.int .u32 xe, .int .u32 xn]] (grow (redrawn W2 d) os) fun e w'' => e = .returned (.int .i64 (cmpZ be bn xe xn)) ∧ ∃ p : Regrown, w'' = grow (redrawn W2 p.d) p.os := fun d os => Calls.regrown_of (cmpR_calls be bn xe xn _)
              clear hhas hh hbd
              refine wp_region_quiet_below (by kernel_rfl) (by kernel_rfl) ?_
              repeat (go_big_quiet_step (first | exact c38 _ _ | exact c28 _ _ | exact c18 _ _))
              refine wpQuiet_nil ?_
              intro _ hw'
              obtain ⟨⟨dq, osq⟩, hw''⟩ := hw'
              subst hw''
              have HBel := Lib.hid (below_then HAll.out HAll.out.size (below_regrown W2 dq osq))
              have HBk := Lib.hid (regrown_heap HB2.out dq osq)
              have HRk := Lib.hid (regrown_heap HR2.out dq osq)
              have HXk := Lib.hid (regrown_heap HX2.out dq osq)
              have HSk : Hid (w.heap.size + 2 ≤ (grow (redrawn W2 dq) osq).heap.size) := Lib.hid (by have := (below_regrown W2 dq osq).size; have := HSX.out; omega)
              generalize grow (redrawn W2 dq) osq = W4 at *
              clear ka kh kv kx0 kx1 kb0 kb1 c38 c28 c18
              go_wp2
              exact ⟨⟨k + 1, by omega, by go_num, by rw [HT.out, HC.out], HRk, by rw [HT.out, HC.out]; exact HBk, HBel, HSk⟩, by simp [intOf]; omega⟩
    · obtain rfl : k = ws.length := by omega
      obtain ⟨best, hbest⟩ : ∃ x, bestTo ws gs f ws.length = x := ⟨_, rfl⟩
      rw [hbest] at HK ⊢
      have HBE := Lib.hid (HEQ.out.trans hbest)
      clear hbest
      obtain ⟨bs, be, bn⟩ := best
      dsimp only at HK ⊢
      obtain ⟨k0, k1⟩ := box44 HK.out
      obtain ⟨z0, z1⟩ := box44 HR.out
      have f0 := frozen_of_row wr w.heap.size 0 _ _ HR.out
      have f1 := frozen_of_row wr w.heap.size 1 _ _ HR.out
      have HFI := Lib.hid ((HB.out.setCell (p := ⟨w.heap.size, 0, none⟩) (Nat.le_refl _) (.int .u32 be)).setCell (p := ⟨w.heap.size, 1, none⟩) (Nat.le_refl _) (.int .u32 bn))
      have r0 : ((wr.setCell ⟨w.heap.size, 0, none⟩ (.int .u32 be)).setCell ⟨w.heap.size, 1, none⟩ (.int .u32 bn)).cell? ⟨w.heap.size, 0, none⟩ = some (.int .u32 be) := by
        rw [World.cell?_setCell_other _ _ _ _ (by simp), World.cell?_setCell_same _ _ _ z0]
      have r1 : ((wr.setCell ⟨w.heap.size, 0, none⟩ (.int .u32 be)).setCell ⟨w.heap.size, 1, none⟩ (.int .u32 bn)).cell? ⟨w.heap.size, 1, none⟩ = some (.int .u32 bn) :=
        World.cell?_setCell_same _ _ _ ((World.cell?_setCell_other _ _ _ _ (by simp)).trans z1)
      go_wp2
      exact bodyPost_ret (v := .tuple #[.agg #[.int .u32 be, .int .u32 bn], .bool bs]) (by simp [results, Try.results17, go_sem, r0, r1]) rfl ⟨by rw [HBE.out], HFI.out⟩
end Go.Proofs.Ytfkbknkmanphfaa.Q
