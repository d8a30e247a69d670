import Derived.Test.YtfkbknkmanphfaaD
import Derived.Lib.QuietBelow
import Derived.BigQuiet
namespace Go.Proofs.Ytfkbknkmanphfaa.Q
open Go.RowKit Go.Proofs.YtfkbknkmanphfaaW.PrintWords Go.Sort
set_option linter.unusedVariables false
set_option linter.unusedSimpArgs false

def bestStep (ws gs : List Int) (f : Nat → Ak) (b x : Ak) : Ak := if x.s = true ∧ (b.s = false ∨ cmpZ b.e b.n x.e x.n < 0) ∧ hasB ws gs (inS (setTo f x.e x.n 7)) = true then x else b
def bestTo (ws gs : List Int) (f : Nat → Ak) : Nat → Ak
  | 0 => ⟨false, 0, 0⟩
  | k + 1 => bestStep ws gs f (bestTo ws gs f k) (f k)
def akArr (x : Ak) : Array Value := #[.bool x.s, .int .u32 x.e, .int .u32 x.n]
theorem ak_cells {w : World} {g : Nat} {x : Ak} (h : w.heap[g]? = some (.cells (akArr x) 68 (0, 0))) : w.cell? ⟨g, 0, none⟩ = some (.bool x.s) ∧ w.cell? ⟨g, 1, none⟩ = some (.int .u32 x.e) ∧ w.cell? ⟨g, 2, none⟩ = some (.int .u32 x.n) :=
  ⟨cell_of_row w g 0 _ _ _ h, cell_of_row w g 1 _ _ _ h, cell_of_row w g 2 _ _ _ h⟩
theorem regrown_heap {w : World} {k : Nat} {o : Obj} (h : w.heap[k]? = some o) (d : Nat) (os : Array Obj) : (grow (redrawn w d) os).heap[k]? = some o :=
  ((below_regrown w d os).block k (Array.getElem?_eq_some_iff.1 h).1).trans h

set_option maxHeartbeats 4000000 in
theorem committed_acks (a b : Nat) (ws gs : List Int) (f : Nat → Ak) (w : World) (h : Acks w a b ws gs f) :
    Calls Try.prog 16 #[.pointer (some ⟨a, 0, none⟩)] w fun e w' => e = .returned (.tuple #[.agg #[.int .u32 (bestTo ws gs f 7).e, .int .u32 (bestTo ws gs f 7).n], .bool (bestTo ws gs f 7).s]) ∧ Below w.heap.size w w' := by
  have HS := Lib.hid h.sys.sys
  have ha := (Array.getElem?_eq_some_iff.1 h.blk).1
  have hab : b < a := by obtain ⟨_, _, _, _, _, h, _⟩ := h.sys; exact h

  have hp : w.cell? ⟨a, 0, none⟩ = some (.pointer (some ⟨b, 0, none⟩)) := (cell_of_row w a 0 _ _ _ h.blk).trans rfl
  have hB1 := below_alloc (Below.refl w.heap.size w) (Obj.cells #[Value.int IntKind.u32 0, Value.int IntKind.u32 0] 44)
  have hB2 := below_alloc hB1 (Obj.cells #[Value.bool false, Value.int IntKind.u32 0, Value.int IntKind.u32 0] 68)
  have K0 := Lib.hid (zero_sys b ws gs _ (h.sys.sys.below hB1))
  have hr := heap_alloc2_old w (Obj.cells #[Value.int IntKind.u32 0, Value.int IntKind.u32 0] 44) (Obj.cells #[Value.bool false, Value.int IntKind.u32 0, Value.int IntKind.u32 0] 68)
  have hbb := heap_alloc2_new w (Obj.cells #[Value.int IntKind.u32 0, Value.int IntKind.u32 0] 44) (Obj.cells #[Value.bool false, Value.int IntKind.u32 0, Value.int IntKind.u32 0] 68)
  have hs2 : w.heap.size + 2 ≤ ((w.alloc (Obj.cells #[Value.int IntKind.u32 0, Value.int IntKind.u32 0] 44)).alloc (Obj.cells #[Value.bool false, Value.int IntKind.u32 0, Value.int IntKind.u32 0] 68)).heap.size := by simp
  have HK0 := Lib.hid ((hB2.block a ha).trans h.blk)
  obtain ⟨W, hW⟩ : ∃ W, (w.alloc (Obj.cells #[Value.int IntKind.u32 0, Value.int IntKind.u32 0] 44)).alloc (Obj.cells #[Value.bool false, Value.int IntKind.u32 0, Value.int IntKind.u32 0] 68) = W := ⟨_, rfl⟩
  have HW := Lib.hid hW
  have HR : Hid (W.heap[w.heap.size]? = some (.cells #[Value.int IntKind.u32 0, Value.int IntKind.u32 0] 44 (0, 0))) := Lib.hid (by rw [← hW]; exact hr)
  have HBb : Hid (W.heap[w.heap.size + 1]? = some (.cells (akArr (bestTo ws gs f 0)) 68 (0, 0))) := Lib.hid (by rw [← hW]; exact hbb)
  have HB2 : Hid (Below w.heap.size w W) := Lib.hid (by rw [← hW]; exact hB2)
  have HSZ : Hid (w.heap.size + 2 ≤ W.heap.size) := Lib.hid (by rw [← hW]; exact hs2)
  have HAK := Lib.hid h.sys
  have HBL := Lib.hid h.blk
  clear hB1 hB2 hr hbb hs2 hW h
  go_enter Try.func16, Try.ntmps16
  go_wp2_with (first | (go_at_call 33; refine K0.out.mono ?_; rintro e w' ⟨rfl, rfl⟩) | (refine wpList_load_mid rfl 69 _ rfl a 1 rfl (ackRow f) _ (ackRow_at HK0.out) Try.underlying69 rfl (by kernel_rfl) ?_))
  rw [HW.out]
  go_loopw [21] (fun i wr => ∃ k : Nat, k ≤ 7 ∧ i = .int .i64 k ∧ Hid (wr.heap[w.heap.size]? = some (.cells #[Value.int IntKind.u32 0, Value.int IntKind.u32 0] 44 (0, 0))) ∧ Hid (wr.heap[w.heap.size + 1]? = some (.cells (akArr (bestTo ws gs f k)) 68 (0, 0))) ∧ Hid (Below w.heap.size w wr) ∧ Hid (w.heap.size + 2 ≤ wr.heap.size)) (fun i _ => 7 - (intOf i).toNat)
  case atStart => exact ⟨0, by omega, rfl, HR, HBb, HB2, HSZ⟩
  case round =>
    clear HR HBb HB2 HSZ
    obtain ⟨k, hk, rfl, HR, HBb, HB, HSZ⟩ := hrel
    by_cases hlt : k < 7
    · have hx := ackRow_index f k hlt
      -- the world behind the box of x
      have hX := heap_alloc_new wr (Obj.cells #[Value.bool (f k).s, Value.int IntKind.u32 (f k).e, Value.int IntKind.u32 (f k).n] 68)
      have hBx := below_alloc (Below.refl wr.heap.size wr) (Obj.cells #[Value.bool (f k).s, Value.int IntKind.u32 (f k).e, Value.int IntKind.u32 (f k).n] 68)
      have hszx : (wr.alloc (Obj.cells #[Value.bool (f k).s, Value.int IntKind.u32 (f k).e, Value.int IntKind.u32 (f k).n] 68)).heap.size = wr.heap.size + 1 := by simp
      obtain ⟨W2, hW2⟩ : ∃ W2, wr.alloc (Obj.cells #[Value.bool (f k).s, Value.int IntKind.u32 (f k).e, Value.int IntKind.u32 (f k).n] 68) = W2 := ⟨_, rfl⟩
      rw [hW2] at hX hBx hszx
      have q1 := HSZ.out
      have hAll : Below w.heap.size w W2 := below_then HB.out HB.out.size hBx
      have hA2 : W2.heap[a]? = some (.cells (ackArr b f) 71 (0, 0)) := (hAll.block a ha).trans HBL.out
      have hR2 : W2.heap[w.heap.size]? = some (.cells #[Value.int IntKind.u32 0, Value.int IntKind.u32 0] 44 (0, 0)) := (hBx.block _ (by omega)).trans HR.out
      have hB2 : W2.heap[w.heap.size + 1]? = some (.cells (akArr (bestTo ws gs f k)) 68 (0, 0)) := (hBx.block _ (by omega)).trans HBb.out
      have hS2 : Sys W2 b ws gs := HS.out.below hAll
      have ka := cell_regrown (pw_cell_below hAll hp)
      have kx0 := cell_regrown ((cell_of_row W2 wr.heap.size 0 _ _ _ hX).trans rfl)
      have kx1 := cell_regrown ((cell_of_row W2 wr.heap.size 1 _ _ _ hX).trans rfl)
      have kx2 := cell_regrown ((cell_of_row W2 wr.heap.size 2 _ _ _ hX).trans rfl)
      have kb0 := cell_regrown (ak_cells hB2).1
      have kb1 := cell_regrown (ak_cells hB2).2.1
      have kb2 := cell_regrown (ak_cells hB2).2.2
      have HT : Hid (bestTo ws gs f (k + 1) = bestStep ws gs f (bestTo ws gs f k) (f k)) := rfl
      obtain ⟨best, hbest⟩ : ∃ x, bestTo ws gs f k = x := ⟨_, rfl⟩
      obtain ⟨x, hxx⟩ : ∃ x, f k = x := ⟨_, rfl⟩
      rw [hxx] at hx kx0 kx1 kx2 hW2 hX HT
      rw [hbest] at kb0 kb1 kb2 hB2 HT
      have HW2 := Lib.hid hW2
      have HX := Lib.hid hX
      have HA2 := Lib.hid hA2
      have HR2 := Lib.hid hR2
      have HB3 := Lib.hid hB2
      have HS2 := Lib.hid hS2
      have HAll := Lib.hid hAll
      have HSX := Lib.hid hszx
      have hl1 : w.heap.size + 1 < wr.heap.size := by omega
      obtain ⟨xs, xe, xn⟩ := x
      obtain ⟨bs, be, bn⟩ := best
      try dsimp only at hx kx0 kx1 kx2 kb0 kb1 kb2
      clear hW2 hX hA2 hR2 hB2 hS2 hAll hszx hbest hxx hBx HBb HR
      cases xs with
      | false =>
        have HC : Hid (bestStep ws gs f ⟨bs, be, bn⟩ ⟨false, xe, xn⟩ = ⟨bs, be, bn⟩) := Lib.hid (by unfold bestStep; simp)
        skip
        go_wp2
        rw [HW2.out]
        refine wp_region_quiet_below (by kernel_rfl) (by kernel_rfl) ?_
        repeat (go_big_quiet_step (fail))
        refine wpQuiet_nil ?_
        intro _ hw'
        obtain ⟨⟨dq, osq⟩, hw''⟩ := hw'
        subst hw''
        have HBel := Lib.hid (below_then HAll.out HAll.out.size (below_regrown W2 dq osq))
        have HBk := Lib.hid (regrown_heap HB3.out dq osq)
        have HRk := Lib.hid (regrown_heap HR2.out dq osq)
        have HSk : Hid (w.heap.size + 2 ≤ (grow (redrawn W2 dq) osq).heap.size) := Lib.hid (by have := (below_regrown W2 dq osq).size; have := HSX.out; omega)
        have y0 := kx0 dq osq
        have y1 := kx1 dq osq
        have y2 := kx2 dq osq
        have u0 := kb0 dq osq
        have u1 := kb1 dq osq
        have u2 := kb2 dq osq
        have fz := fun j => frozen_of_row (grow (redrawn W2 dq) osq) (w.heap.size + 1) j _ _ HBk.out
        have fz0 := fz 0
        have fz1 := fz 1
        have fz2 := fz 2
        generalize grow (redrawn W2 dq) osq = W4 at *
        clear kx0 kx1 kx2 kb0 kb1 kb2 ka fz 
        go_wp2
        exact ⟨⟨k + 1, by omega, by go_num, HRk, by rw [HT.out, HC.out]; exact HBk, HBel, HSk⟩, by simp [intOf]; omega⟩
      | true =>
        cases bs with
        | false =>
          cases hhas : hasB ws gs (inS (setTo f xe xn 7)) with
          | true =>
            have c37 : ∀ d os, Calls Try.prog 37 #[.pointer (some ⟨a, 0, none⟩), .agg #[.int .u32 xe, .int .u32 xn]] (grow (redrawn W2 d) os) fun e w'' => e = .returned (.int .u8 (setTo f xe xn 7)) ∧ ∃ p : Regrown, w'' = grow (redrawn W2 p.d) p.os := fun d os => Calls.regrown_of (behind_acks a b f _ (regrown_heap HA2.out d os) xe xn)
            have c20 : ∀ d os, Calls Try.prog 20 #[.pointer (some ⟨b, 0, none⟩), .int .u8 (setTo f xe xn 7)] (grow (redrawn W2 d) os) fun e w'' => e = .returned (.bool true) ∧ ∃ p : Regrown, w'' = grow (redrawn W2 p.d) p.os := fun d os => Calls.regrown_of ((calls_eq (has_sys b ws gs _ (HS2.out.below (below_regrown W2 d os)) _ (setTo_bd f xe xn 7 (by omega))) (congrArg Value.bool hhas)).out)
            have HC : Hid (bestStep ws gs f ⟨false, be, bn⟩ ⟨true, xe, xn⟩ = ⟨true, xe, xn⟩) := Lib.hid (by unfold bestStep; simp [hhas])
            clear hhas
            go_wp2
            rw [HW2.out]
            refine wp_region_quiet_below (by kernel_rfl) (by kernel_rfl) ?_
            repeat (go_big_quiet_step (first | exact c37 _ _ | exact c20 _ _))
            refine wpQuiet_nil ?_
            intro _ hw'
            obtain ⟨⟨dq, osq⟩, hw''⟩ := hw'
            subst hw''
            have HBel := Lib.hid (below_then HAll.out HAll.out.size (below_regrown W2 dq osq))
            have HBk := Lib.hid (regrown_heap HB3.out dq osq)
            have HRk := Lib.hid (regrown_heap HR2.out dq osq)
            have HSk : Hid (w.heap.size + 2 ≤ (grow (redrawn W2 dq) osq).heap.size) := Lib.hid (by have := (below_regrown W2 dq osq).size; have := HSX.out; omega)
            have y0 := kx0 dq osq
            have y1 := kx1 dq osq
            have y2 := kx2 dq osq
            have u0 := kb0 dq osq
            have u1 := kb1 dq osq
            have u2 := kb2 dq osq
            have fz := fun j => frozen_of_row (grow (redrawn W2 dq) osq) (w.heap.size + 1) j _ _ HBk.out
            have fz0 := fz 0
            have fz1 := fz 1
            have fz2 := fz 2
            generalize grow (redrawn W2 dq) osq = W4 at *
            clear kx0 kx1 kx2 kb0 kb1 kb2 ka fz c37 c20
            have HST : Hid ((((W4.setCell ⟨w.heap.size + 1, 0, none⟩ (.bool true)).setCell ⟨w.heap.size + 1, 1, none⟩ (.int .u32 xe)).setCell ⟨w.heap.size + 1, 2, none⟩ (.int .u32 xn)).heap[w.heap.size + 1]? = some (.cells (akArr ⟨true, xe, xn⟩) 68 (0, 0))) := Lib.hid (by
              rw [heap_setCell_same _ _ _ _ _ _ (heap_setCell_same _ _ _ _ _ _ (heap_setCell_same _ _ _ _ _ _ HBk.out))]; simp [akArr])
            have HSR : Hid ((((W4.setCell ⟨w.heap.size + 1, 0, none⟩ (.bool true)).setCell ⟨w.heap.size + 1, 1, none⟩ (.int .u32 xe)).setCell ⟨w.heap.size + 1, 2, none⟩ (.int .u32 xn)).heap[w.heap.size]? = some (.cells #[Value.int IntKind.u32 0, Value.int IntKind.u32 0] 44 (0, 0))) := Lib.hid (by
              rw [heap_setCell_other _ _ _ _ (by simp), heap_setCell_other _ _ _ _ (by simp), heap_setCell_other _ _ _ _ (by simp)]; exact HRk.out)
            go_wp2
            exact ⟨⟨k + 1, by omega, by go_num, HSR, by rw [HT.out, HC.out]; exact HST, Lib.hid (((HBel.out.setCell (by simp) _).setCell (by simp) _).setCell (by simp) _), Lib.hid (by simp; exact HSk.out)⟩, by simp [intOf]; omega⟩
          | false =>
            have c37 : ∀ d os, Calls Try.prog 37 #[.pointer (some ⟨a, 0, none⟩), .agg #[.int .u32 xe, .int .u32 xn]] (grow (redrawn W2 d) os) fun e w'' => e = .returned (.int .u8 (setTo f xe xn 7)) ∧ ∃ p : Regrown, w'' = grow (redrawn W2 p.d) p.os := fun d os => Calls.regrown_of (behind_acks a b f _ (regrown_heap HA2.out d os) xe xn)
            have c20 : ∀ d os, Calls Try.prog 20 #[.pointer (some ⟨b, 0, none⟩), .int .u8 (setTo f xe xn 7)] (grow (redrawn W2 d) os) fun e w'' => e = .returned (.bool false) ∧ ∃ p : Regrown, w'' = grow (redrawn W2 p.d) p.os := fun d os => Calls.regrown_of ((calls_eq (has_sys b ws gs _ (HS2.out.below (below_regrown W2 d os)) _ (setTo_bd f xe xn 7 (by omega))) (congrArg Value.bool hhas)).out)
            have HC : Hid (bestStep ws gs f ⟨false, be, bn⟩ ⟨true, xe, xn⟩ = ⟨false, be, bn⟩) := Lib.hid (by unfold bestStep; simp [hhas])
            clear hhas
            go_wp2
            rw [HW2.out]
            refine wp_region_quiet_below (by kernel_rfl) (by kernel_rfl) ?_
            repeat (go_big_quiet_step (first | exact c37 _ _ | exact c20 _ _))
            refine wpQuiet_nil ?_
            intro _ hw'
            obtain ⟨⟨dq, osq⟩, hw''⟩ := hw'
            subst hw''
            have HBel := Lib.hid (below_then HAll.out HAll.out.size (below_regrown W2 dq osq))
            have HBk := Lib.hid (regrown_heap HB3.out dq osq)
            have HRk := Lib.hid (regrown_heap HR2.out dq osq)
            have HSk : Hid (w.heap.size + 2 ≤ (grow (redrawn W2 dq) osq).heap.size) := Lib.hid (by have := (below_regrown W2 dq osq).size; have := HSX.out; omega)
            have y0 := kx0 dq osq
            have y1 := kx1 dq osq
            have y2 := kx2 dq osq
            have u0 := kb0 dq osq
            have u1 := kb1 dq osq
            have u2 := kb2 dq osq
            have fz := fun j => frozen_of_row (grow (redrawn W2 dq) osq) (w.heap.size + 1) j _ _ HBk.out
            have fz0 := fz 0
            have fz1 := fz 1
            have fz2 := fz 2
            generalize grow (redrawn W2 dq) osq = W4 at *
            clear kx0 kx1 kx2 kb0 kb1 kb2 ka fz c37 c20
            go_wp2
            exact ⟨⟨k + 1, by omega, by go_num, HRk, by rw [HT.out, HC.out]; exact HBk, HBel, HSk⟩, by simp [intOf]; omega⟩
        | true =>
          by_cases hc : cmpZ be bn xe xn < 0
          · cases hhas : hasB ws gs (inS (setTo f xe xn 7)) with
            | true =>
              have c35 : ∀ d os, Calls Try.prog 35 #[.agg #[.int .u32 be, .int .u32 bn], .agg #[.int .u32 xe, .int .u32 xn]] (grow (redrawn W2 d) os) fun e w'' => e = .returned (.int .i64 (cmpZ be bn xe xn)) ∧ ∃ p : Regrown, w'' = grow (redrawn W2 p.d) p.os := fun d os => Calls.regrown_of (cmp_calls be bn xe xn _)
              have c37 : ∀ d os, Calls Try.prog 37 #[.pointer (some ⟨a, 0, none⟩), .agg #[.int .u32 xe, .int .u32 xn]] (grow (redrawn W2 d) os) fun e w'' => e = .returned (.int .u8 (setTo f xe xn 7)) ∧ ∃ p : Regrown, w'' = grow (redrawn W2 p.d) p.os := fun d os => Calls.regrown_of (behind_acks a b f _ (regrown_heap HA2.out d os) xe xn)
              have c20 : ∀ d os, Calls Try.prog 20 #[.pointer (some ⟨b, 0, none⟩), .int .u8 (setTo f xe xn 7)] (grow (redrawn W2 d) os) fun e w'' => e = .returned (.bool true) ∧ ∃ p : Regrown, w'' = grow (redrawn W2 p.d) p.os := fun d os => Calls.regrown_of ((calls_eq (has_sys b ws gs _ (HS2.out.below (below_regrown W2 d os)) _ (setTo_bd f xe xn 7 (by omega))) (congrArg Value.bool hhas)).out)
              have HC : Hid (bestStep ws gs f ⟨true, be, bn⟩ ⟨true, xe, xn⟩ = ⟨true, xe, xn⟩) := Lib.hid (by unfold bestStep; simp [hhas, hc])
              clear hhas
              go_wp2
              rw [HW2.out]
              refine wp_region_quiet_below (by kernel_rfl) (by kernel_rfl) ?_
              repeat (go_big_quiet_step (first | exact c35 _ _ | exact c37 _ _ | exact c20 _ _))
              refine wpQuiet_nil ?_
              intro _ hw'
              obtain ⟨⟨dq, osq⟩, hw''⟩ := hw'
              subst hw''
              have HBel := Lib.hid (below_then HAll.out HAll.out.size (below_regrown W2 dq osq))
              have HBk := Lib.hid (regrown_heap HB3.out dq osq)
              have HRk := Lib.hid (regrown_heap HR2.out dq osq)
              have HSk : Hid (w.heap.size + 2 ≤ (grow (redrawn W2 dq) osq).heap.size) := Lib.hid (by have := (below_regrown W2 dq osq).size; have := HSX.out; omega)
              have y0 := kx0 dq osq
              have y1 := kx1 dq osq
              have y2 := kx2 dq osq
              have u0 := kb0 dq osq
              have u1 := kb1 dq osq
              have u2 := kb2 dq osq
              have fz := fun j => frozen_of_row (grow (redrawn W2 dq) osq) (w.heap.size + 1) j _ _ HBk.out
              have fz0 := fz 0
              have fz1 := fz 1
              have fz2 := fz 2
              generalize grow (redrawn W2 dq) osq = W4 at *
              clear kx0 kx1 kx2 kb0 kb1 kb2 ka fz c35 c37 c20
              have HST : Hid ((((W4.setCell ⟨w.heap.size + 1, 0, none⟩ (.bool true)).setCell ⟨w.heap.size + 1, 1, none⟩ (.int .u32 xe)).setCell ⟨w.heap.size + 1, 2, none⟩ (.int .u32 xn)).heap[w.heap.size + 1]? = some (.cells (akArr ⟨true, xe, xn⟩) 68 (0, 0))) := Lib.hid (by
                rw [heap_setCell_same _ _ _ _ _ _ (heap_setCell_same _ _ _ _ _ _ (heap_setCell_same _ _ _ _ _ _ HBk.out))]; simp [akArr])
              have HSR : Hid ((((W4.setCell ⟨w.heap.size + 1, 0, none⟩ (.bool true)).setCell ⟨w.heap.size + 1, 1, none⟩ (.int .u32 xe)).setCell ⟨w.heap.size + 1, 2, none⟩ (.int .u32 xn)).heap[w.heap.size]? = some (.cells #[Value.int IntKind.u32 0, Value.int IntKind.u32 0] 44 (0, 0))) := Lib.hid (by
                rw [heap_setCell_other _ _ _ _ (by simp), heap_setCell_other _ _ _ _ (by simp), heap_setCell_other _ _ _ _ (by simp)]; exact HRk.out)
              go_wp2
              exact ⟨⟨k + 1, by omega, by go_num, HSR, by rw [HT.out, HC.out]; exact HST, Lib.hid (((HBel.out.setCell (by simp) _).setCell (by simp) _).setCell (by simp) _), Lib.hid (by simp; exact HSk.out)⟩, by simp [intOf]; omega⟩
            | false =>
              have c35 : ∀ d os, Calls Try.prog 35 #[.agg #[.int .u32 be, .int .u32 bn], .agg #[.int .u32 xe, .int .u32 xn]] (grow (redrawn W2 d) os) fun e w'' => e = .returned (.int .i64 (cmpZ be bn xe xn)) ∧ ∃ p : Regrown, w'' = grow (redrawn W2 p.d) p.os := fun d os => Calls.regrown_of (cmp_calls be bn xe xn _)
              have c37 : ∀ d os, Calls Try.prog 37 #[.pointer (some ⟨a, 0, none⟩), .agg #[.int .u32 xe, .int .u32 xn]] (grow (redrawn W2 d) os) fun e w'' => e = .returned (.int .u8 (setTo f xe xn 7)) ∧ ∃ p : Regrown, w'' = grow (redrawn W2 p.d) p.os := fun d os => Calls.regrown_of (behind_acks a b f _ (regrown_heap HA2.out d os) xe xn)
              have c20 : ∀ d os, Calls Try.prog 20 #[.pointer (some ⟨b, 0, none⟩), .int .u8 (setTo f xe xn 7)] (grow (redrawn W2 d) os) fun e w'' => e = .returned (.bool false) ∧ ∃ p : Regrown, w'' = grow (redrawn W2 p.d) p.os := fun d os => Calls.regrown_of ((calls_eq (has_sys b ws gs _ (HS2.out.below (below_regrown W2 d os)) _ (setTo_bd f xe xn 7 (by omega))) (congrArg Value.bool hhas)).out)
              have HC : Hid (bestStep ws gs f ⟨true, be, bn⟩ ⟨true, xe, xn⟩ = ⟨true, be, bn⟩) := Lib.hid (by unfold bestStep; simp [hhas])
              clear hhas
              go_wp2
              rw [HW2.out]
              refine wp_region_quiet_below (by kernel_rfl) (by kernel_rfl) ?_
              repeat (go_big_quiet_step (first | exact c35 _ _ | exact c37 _ _ | exact c20 _ _))
              refine wpQuiet_nil ?_
              intro _ hw'
              obtain ⟨⟨dq, osq⟩, hw''⟩ := hw'
              subst hw''
              have HBel := Lib.hid (below_then HAll.out HAll.out.size (below_regrown W2 dq osq))
              have HBk := Lib.hid (regrown_heap HB3.out dq osq)
              have HRk := Lib.hid (regrown_heap HR2.out dq osq)
              have HSk : Hid (w.heap.size + 2 ≤ (grow (redrawn W2 dq) osq).heap.size) := Lib.hid (by have := (below_regrown W2 dq osq).size; have := HSX.out; omega)
              have y0 := kx0 dq osq
              have y1 := kx1 dq osq
              have y2 := kx2 dq osq
              have u0 := kb0 dq osq
              have u1 := kb1 dq osq
              have u2 := kb2 dq osq
              have fz := fun j => frozen_of_row (grow (redrawn W2 dq) osq) (w.heap.size + 1) j _ _ HBk.out
              have fz0 := fz 0
              have fz1 := fz 1
              have fz2 := fz 2
              generalize grow (redrawn W2 dq) osq = W4 at *
              clear kx0 kx1 kx2 kb0 kb1 kb2 ka fz c35 c37 c20
              go_wp2
              exact ⟨⟨k + 1, by omega, by go_num, HRk, by rw [HT.out, HC.out]; exact HBk, HBel, HSk⟩, by simp [intOf]; omega⟩
          · have hcd : decide (cmpZ be bn xe xn < 0) = false := decide_eq_false hc
            have c35 : ∀ d os, Calls Try.prog 35 #[.agg #[.int .u32 be, .int .u32 bn], .agg #[.int .u32 xe, .int .u32 xn]] (grow (redrawn W2 d) os) fun e w'' => e = .returned (.int .i64 (cmpZ be bn xe xn)) ∧ ∃ p : Regrown, w'' = grow (redrawn W2 p.d) p.os := fun d os => Calls.regrown_of (cmp_calls be bn xe xn _)
            have HC : Hid (bestStep ws gs f ⟨true, be, bn⟩ ⟨true, xe, xn⟩ = ⟨true, be, bn⟩) := Lib.hid (by unfold bestStep; simp; omega)
            skip
            go_wp2
            rw [HW2.out]
            refine wp_region_quiet_below (by kernel_rfl) (by kernel_rfl) ?_
            repeat (go_big_quiet_step (first | exact c35 _ _))
            refine wpQuiet_nil ?_
            intro _ hw'
            obtain ⟨⟨dq, osq⟩, hw''⟩ := hw'
            subst hw''
            have HBel := Lib.hid (below_then HAll.out HAll.out.size (below_regrown W2 dq osq))
            have HBk := Lib.hid (regrown_heap HB3.out dq osq)
            have HRk := Lib.hid (regrown_heap HR2.out dq osq)
            have HSk : Hid (w.heap.size + 2 ≤ (grow (redrawn W2 dq) osq).heap.size) := Lib.hid (by have := (below_regrown W2 dq osq).size; have := HSX.out; omega)
            have y0 := kx0 dq osq
            have y1 := kx1 dq osq
            have y2 := kx2 dq osq
            have u0 := kb0 dq osq
            have u1 := kb1 dq osq
            have u2 := kb2 dq osq
            have fz := fun j => frozen_of_row (grow (redrawn W2 dq) osq) (w.heap.size + 1) j _ _ HBk.out
            have fz0 := fz 0
            have fz1 := fz 1
            have fz2 := fz 2
            generalize grow (redrawn W2 dq) osq = W4 at *
            clear kx0 kx1 kx2 kb0 kb1 kb2 ka fz c35
            go_wp2
            exact ⟨⟨k + 1, by omega, by go_num, HRk, by rw [HT.out, HC.out]; exact HBk, HBel, HSk⟩, by simp [intOf]; omega⟩
    · obtain rfl : k = 7 := by omega
      obtain ⟨B, hBB⟩ : ∃ x, bestTo ws gs f 7 = x := ⟨_, rfl⟩
      rw [hBB] at HBb
      have HBB := Lib.hid hBB
      clear hBB
      obtain ⟨bs, be, bn⟩ := B
      obtain ⟨u0, u1, u2⟩ := ak_cells HBb.out
      dsimp only at u0 u1 u2
      have r0 := (cell_of_row wr w.heap.size 0 _ _ _ HR.out).trans rfl
      have r1 := (cell_of_row wr w.heap.size 1 _ _ _ HR.out).trans rfl
      have rf0 := frozen_of_row wr w.heap.size 0 _ _ HR.out
      have rf1 := frozen_of_row wr w.heap.size 1 _ _ HR.out

      go_wp2
      go_region
      have v0 : (((wr.setCell { block := w.heap.size, off := 0 } (Value.int IntKind.u32 be)).setCell { block := w.heap.size, off := 1 } (Value.int IntKind.u32 bn)).drew).cell? ⟨w.heap.size, 0, none⟩ = some (.int .u32 be) := by
        rw [World.cell?_drew, World.cell?_setCell_other _ _ _ _ (by simp), World.cell?_setCell_same _ _ _ r0]
      have v1 : (((wr.setCell { block := w.heap.size, off := 0 } (Value.int IntKind.u32 be)).setCell { block := w.heap.size, off := 1 } (Value.int IntKind.u32 bn)).drew).cell? ⟨w.heap.size, 1, none⟩ = some (.int .u32 bn) := by
        rw [World.cell?_drew, World.cell?_setCell_same _ _ _ ((World.cell?_setCell_other _ _ _ _ (by simp)).trans r1)]
      have HF := Lib.hid (((HB.out.setCell (p := ⟨w.heap.size, 0, none⟩) (Nat.le_refl _) (.int .u32 be)).setCell (p := ⟨w.heap.size, 1, none⟩) (Nat.le_refl _) (.int .u32 bn)).drew)
      go_wp2
      exact bodyPost_ret (v := .tuple #[.agg #[.int .u32 be, .int .u32 bn], .bool bs]) (by simp [results, Try.results16, go_sem, v0, v1]) rfl ⟨by rw [HBB.out], HF.out⟩
end Go.Proofs.Ytfkbknkmanphfaa.Q
