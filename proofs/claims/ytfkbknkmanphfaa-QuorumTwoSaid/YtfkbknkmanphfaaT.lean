import Derived.Test.YtfkbknkmanphfaaS
import Derived.Test.YtfkbknkmanphfaaL
namespace Go.Proofs.Ytfkbknkmanphfaa.Q
open Go.RowKit Go.Proofs.YtfkbknkmanphfaaW.PrintWords Go.Sort
set_option linter.unusedVariables false
set_option linter.unusedSimpArgs false

theorem valid012 : Valid [1, 1, 1] [0, 1, 2] := ⟨rfl, by decide, by decide, by decide, by decide, by decide +kernel⟩
def SysB (N : Nat) (W : World) (b : Nat) (ws gs : List Int) : Prop := SysN N W b ws gs ∧ N ≤ W.heap.size
theorem SysB.below {N : Nat} {w w' : World} {b : Nat} {ws gs : List Int} (h : SysB N w b ws gs) (hB : Below w.heap.size w w') : SysB N w' b ws gs :=
  ⟨h.1.only (Only.of_below (S := fun _ => False) hB) h.2 (by simp), Nat.le_trans h.2 hB.size⟩
theorem RSys.lower {M M' : Nat} {w : World} {r : Nat} {ws gs : List Int} (h : RSys M w r ws gs) (hm : M' ≤ M) : RSys M' w r ws gs := by
  obtain ⟨v, g1, c1, g2, c2, hb, l1, l2, e⟩ := h
  exact ⟨v, g1, c1, g2, c2, hb, by omega, by omega, e⟩
theorem rd_lit (w : World) (g : Nat) (x y z : Int) (h : w.heap[g]? = some (.cells #[.int .i64 x, .int .i64 y, .int .i64 z] 3 (0, 0))) : Rd w (some ⟨g, 0, none⟩) [x, y, z] :=
  ⟨by simp, fun _ => ⟨_, rfl, fun i hi => by
    have hi3 : i < 3 := hi
    rw [add_plain, cell_of_row _ _ _ _ _ _ h]
    have : i = 0 ∨ i = 1 ∨ i = 2 := by omega
    rcases this with rfl | rfl | rfl <;> rfl⟩⟩
theorem RdP.below {w w' : World} {A : Option Addr} {ps : List Pt} (h : RdP w A ps) (hB : Below w.heap.size w w') : RdP w' A ps :=
  ⟨h.1, fun hp => by obtain ⟨b, o, ha, hc⟩ := h.2 hp; exact ⟨b, o, ha, fun i hi => ⟨pw_cell_below hB (hc i hi).1, pw_cell_below hB (hc i hi).2.1, pw_cell_below hB (hc i hi).2.2⟩⟩⟩

set_option maxRecDepth 100000 in
set_option maxHeartbeats 32000000 in
theorem two_long (Aw Ag A1 A2 : Option Addr) (cw cg c1 c2 : Nat) (ws gs : List Int) (p1 p2 : List Pt) (w : World) (m1 : ws.length ≤ 9223372036854775807) (m2 : gs.length ≤ 9223372036854775807) (m3 : p1.length ≤ 9223372036854775807) (m4 : p2.length ≤ 9223372036854775807) (h : 2147483647 ≤ ws.length ∨ 2147483647 ≤ gs.length ∨ 2147483647 ≤ p1.length ∨ 2147483647 ≤ p2.length) :
    Calls Try.prog 3 #[.agg #[.slice Aw ws.length cw, .slice Ag gs.length cg, .slice A1 p1.length c1, .slice A2 p2.length c2]] w fun e w' => e = .returned (.bool true) ∧ Below w.heap.size w w' := by
  by_cases x0 : 2147483647 ≤ ws.length
  · go_enter Try.func3, Try.ntmps3
    go_wp2_with fail
    refine (long_calls' _ (by omega) _).mono ?_
    rintro e wx ⟨rfl, rfl⟩
    go_wp2
    go_ret
    exact ⟨rfl, below_alloc (Below.refl _ _) _⟩
  by_cases x1 : 2147483647 ≤ gs.length
  · go_enter Try.func3, Try.ntmps3
    go_wp2_with fail
    refine (long_calls _ (by omega) _).mono ?_
    rintro e wx ⟨rfl, rfl⟩
    go_wp2_with fail
    refine (long_calls' _ (by omega) _).mono ?_
    rintro e wx ⟨rfl, rfl⟩
    go_wp2
    go_ret
    exact ⟨rfl, below_alloc (Below.refl _ _) _⟩
  by_cases x2 : 2147483647 ≤ p1.length
  · go_enter Try.func3, Try.ntmps3
    go_wp2_with fail
    refine (long_calls _ (by omega) _).mono ?_
    rintro e wx ⟨rfl, rfl⟩
    go_wp2_with fail
    refine (long_calls _ (by omega) _).mono ?_
    rintro e wx ⟨rfl, rfl⟩
    go_wp2_with fail
    refine (long_calls' _ (by omega) _).mono ?_
    rintro e wx ⟨rfl, rfl⟩
    go_wp2
    go_ret
    exact ⟨rfl, below_alloc (Below.refl _ _) _⟩
  · go_enter Try.func3, Try.ntmps3
    go_wp2_with fail
    refine (long_calls _ (by omega) _).mono ?_
    rintro e wx ⟨rfl, rfl⟩
    go_wp2_with fail
    refine (long_calls _ (by omega) _).mono ?_
    rintro e wx ⟨rfl, rfl⟩
    go_wp2_with fail
    refine (long_calls _ (by omega) _).mono ?_
    rintro e wx ⟨rfl, rfl⟩
    go_wp2_with fail
    refine (long_calls' _ (by omega) _).mono ?_
    rintro e wx ⟨rfl, rfl⟩
    go_wp2
    go_ret
    exact ⟨rfl, below_alloc (Below.refl _ _) _⟩
set_option maxRecDepth 100000 in
set_option maxHeartbeats 32000000 in
theorem two_no (Aw Ag A1 A2 : Option Addr) (cw cg c1 c2 : Nat) (ws gs : List Int) (p1 p2 : List Pt) (w : World) (hw : Rd w Aw ws) (hg : Rd w Ag gs) (m1 : ws.length < 2147483647) (m2 : gs.length < 2147483647) (m3 : p1.length < 2147483647) (m4 : p2.length < 2147483647) (hv : ¬ Valid ws gs) :
    Calls Try.prog 3 #[.agg #[.slice Aw ws.length cw, .slice Ag gs.length cg, .slice A1 p1.length c1, .slice A2 p2.length c2]] w fun e w' => e = .returned (.bool true) ∧ Below w.heap.size w w' := by
  have HW := Lib.hid hw
  have HG := Lib.hid hg
  have HB := Lib.hid (below_alloc (Below.refl w.heap.size w) (Obj.cells #[.slice Aw ws.length cw, .slice Ag gs.length cg, .slice A1 p1.length c1, .slice A2 p2.length c2] 25))
  have HV := Lib.hid hv
  clear hw hg hv
  go_enter Try.func3, Try.ntmps3
  go_wp2_with fail
  refine (long_calls _ (by omega) _).mono ?_
  rintro e wx ⟨rfl, rfl⟩
  go_wp2_with fail
  refine (long_calls _ (by omega) _).mono ?_
  rintro e wx ⟨rfl, rfl⟩
  go_wp2_with fail
  refine (long_calls _ (by omega) _).mono ?_
  rintro e wx ⟨rfl, rfl⟩
  go_wp2_with fail
  refine (long_calls _ (by omega) _).mono ?_
  rintro e wx ⟨rfl, rfl⟩
  go_wp2_with fail
  refine (new_calls Aw Ag cw cg ws gs _ (HW.out.below HB.out) (HG.out.below HB.out)).mono ?_
  rintro e w1 ⟨hB, ⟨hv, _⟩ | ⟨_, rfl⟩⟩
  · exact absurd hv HV.out
  replace HB := Lib.hid (below_then HB.out HB.out.size hB)
  clear hB
  have hB := below_alloc (below_alloc (Below.refl w1.heap.size w1) (Obj.cells #[.int .i64 1, .int .i64 1, .int .i64 1] 3)) (Obj.cells #[.int .i64 0, .int .i64 1, .int .i64 2] 3)
  have hl1 := heap_alloc2_old w1 (Obj.cells #[.int .i64 1, .int .i64 1, .int .i64 1] 3) (Obj.cells #[.int .i64 0, .int .i64 1, .int .i64 2] 3)
  have hl2 := heap_alloc2_new w1 (Obj.cells #[.int .i64 1, .int .i64 1, .int .i64 1] 3) (Obj.cells #[.int .i64 0, .int .i64 1, .int .i64 2] 3)
  obtain ⟨w2, hW⟩ : ∃ W, (w1.alloc (Obj.cells #[.int .i64 1, .int .i64 1, .int .i64 1] 3)).alloc (Obj.cells #[.int .i64 0, .int .i64 1, .int .i64 2] 3) = W := ⟨_, rfl⟩
  rw [hW] at hB hl1 hl2
  have Hw2 := Lib.hid hW
  have HL1 := Lib.hid (rd_lit w2 _ 1 1 1 hl1)
  have HL2 := Lib.hid (rd_lit w2 _ 0 1 2 hl2)
  clear hW hl1 hl2
  replace HB := Lib.hid (below_then HB.out HB.out.size hB)
  clear hB
  go_wp2_with fail
  rw [Hw2.out]
  refine (new_calls (some ⟨w1.heap.size, 0, none⟩) (some ⟨w1.heap.size + 1, 0, none⟩) 3 3 [1, 1, 1] [0, 1, 2] w2 HL1.out HL2.out).mono ?_
  rintro e w3 ⟨hB, ⟨_, o, rfl, _, hs⟩ | ⟨hv, _⟩⟩
  rotate_left
  · exact absurd valid012 hv
  replace HB := Lib.hid (below_then HB.out HB.out.size hB)
  clear hB hs
  go_wp2_with fail
  refine (lives_calls _).mono ?_
  rintro e w4 ⟨rfl, hB⟩
  replace HB := Lib.hid (below_then HB.out HB.out.size hB)
  clear hB
  go_wp2_with fail
  refine (newR_calls Aw Ag cw cg ws gs _ (HW.out.below HB.out) (HG.out.below HB.out)).mono ?_
  rintro e w5 ⟨hB, ⟨hv, _⟩ | ⟨_, rfl⟩⟩
  · exact absurd hv HV.out
  replace HB := Lib.hid (below_then HB.out HB.out.size hB)
  clear hB
  go_wp2
  go_ret
  exact ⟨rfl, HB.out⟩

set_option maxRecDepth 100000 in
set_option maxHeartbeats 32000000 in
theorem two_yes (Aw Ag A1 A2 : Option Addr) (cw cg c1 c2 : Nat) (ws gs : List Int) (p1 p2 : List Pt) (w : World) (hw : Rd w Aw ws) (hg : Rd w Ag gs) (q1 : RdP w A1 p1) (q2 : RdP w A2 p2) (k1 : PtsOk p1) (k2 : PtsOk p2) (m1 : ws.length < 2147483647) (m2 : gs.length < 2147483647) (m3 : p1.length < 2147483647) (m4 : p2.length < 2147483647) (hv : Valid ws gs) :
    Calls Try.prog 3 #[.agg #[.slice Aw ws.length cw, .slice Ag gs.length cg, .slice A1 p1.length c1, .slice A2 p2.length c2]] w fun e w' => e = .returned (.bool true) ∧ Below w.heap.size w w' := by
  have HW := Lib.hid hw
  have HG := Lib.hid hg
  have HB := Lib.hid (below_alloc (Below.refl w.heap.size w) (Obj.cells #[.slice Aw ws.length cw, .slice Ag gs.length cg, .slice A1 p1.length c1, .slice A2 p2.length c2] 25))
  have HV := Lib.hid hv
  have HQ1 := Lib.hid q1
  have HQ2 := Lib.hid q2
  have HK1 := Lib.hid k1
  have HK2 := Lib.hid k2
  clear hw hg hv q1 q2 k1 k2
  go_enter Try.func3, Try.ntmps3
  go_wp2_with fail
  refine (long_calls _ (by omega) _).mono ?_
  rintro e wx ⟨rfl, rfl⟩
  go_wp2_with fail
  refine (long_calls _ (by omega) _).mono ?_
  rintro e wx ⟨rfl, rfl⟩
  go_wp2_with fail
  refine (long_calls _ (by omega) _).mono ?_
  rintro e wx ⟨rfl, rfl⟩
  go_wp2_with fail
  refine (long_calls _ (by omega) _).mono ?_
  rintro e wx ⟨rfl, rfl⟩
  go_wp2_with fail
  refine (new_calls Aw Ag cw cg ws gs _ (HW.out.below HB.out) (HG.out.below HB.out)).mono ?_
  rintro e w1 ⟨hB, ⟨_, q, rfl, _, hs⟩ | ⟨hv, _⟩⟩
  rotate_left
  · exact absurd HV.out hv
  replace HB := Lib.hid (below_then HB.out HB.out.size hB)
  have HS := Lib.hid hs
  clear hB hs
  have hB := below_alloc (below_alloc (Below.refl w1.heap.size w1) (Obj.cells #[.int .i64 1, .int .i64 1, .int .i64 1] 3)) (Obj.cells #[.int .i64 0, .int .i64 1, .int .i64 2] 3)
  have hl1 := heap_alloc2_old w1 (Obj.cells #[.int .i64 1, .int .i64 1, .int .i64 1] 3) (Obj.cells #[.int .i64 0, .int .i64 1, .int .i64 2] 3)
  have hl2 := heap_alloc2_new w1 (Obj.cells #[.int .i64 1, .int .i64 1, .int .i64 1] 3) (Obj.cells #[.int .i64 0, .int .i64 1, .int .i64 2] 3)
  obtain ⟨w2, hW⟩ : ∃ W, (w1.alloc (Obj.cells #[.int .i64 1, .int .i64 1, .int .i64 1] 3)).alloc (Obj.cells #[.int .i64 0, .int .i64 1, .int .i64 2] 3) = W := ⟨_, rfl⟩
  rw [hW] at hB hl1 hl2
  have Hw2 := Lib.hid hW
  have HL1 := Lib.hid (rd_lit w2 _ 1 1 1 hl1)
  have HL2 := Lib.hid (rd_lit w2 _ 0 1 2 hl2)
  clear hW hl1 hl2
  replace HS := Lib.hid (HS.out.below hB)
  replace HB := Lib.hid (below_then HB.out HB.out.size hB)
  clear hB
  go_wp2_with fail
  rw [Hw2.out]
  refine (new_calls (some ⟨w1.heap.size, 0, none⟩) (some ⟨w1.heap.size + 1, 0, none⟩) 3 3 [1, 1, 1] [0, 1, 2] w2 HL1.out HL2.out).mono ?_
  rintro e w3 ⟨hB, ⟨_, o, rfl, _, hs⟩ | ⟨hv, _⟩⟩
  rotate_left
  · exact absurd valid012 hv
  replace HS := Lib.hid (HS.out.below hB)
  replace HB := Lib.hid (below_then HB.out HB.out.size hB)
  have HO := Lib.hid hs
  clear hB hs HL1 HL2 Hw2
  go_wp2_with fail
  refine (lives_calls _).mono ?_
  rintro e w4 ⟨rfl, hB⟩
  replace HS := Lib.hid (HS.out.below hB)
  replace HO := Lib.hid (HO.out.below hB)
  replace HB := Lib.hid (below_then HB.out HB.out.size hB)
  clear hB
  have SQ : Hid (SysB w4.heap.size w4 q ws gs) := Lib.hid ⟨HS.out.n, Nat.le_refl _⟩
  have SO : Hid (SysB w4.heap.size w4 o [1, 1, 1] [0, 1, 2]) := Lib.hid ⟨HO.out.n, Nat.le_refl _⟩
  have O0 := Lib.hid HB.out.size
  go_wp2_with fail
  refine (newAcks_sys q ws gs w4 HS.out).mono ?_
  rintro e w5 ⟨a, rfl, ho, hk, hB⟩
  replace HS := Lib.hid (HS.out.below hB)
  replace HO := Lib.hid (HO.out.below hB)
  replace SQ := Lib.hid (SQ.out.below hB)
  replace SO := Lib.hid (SO.out.below hB)
  replace HB := Lib.hid (below_then HB.out HB.out.size hB)
  have Ka := Lib.hid hk.blk
  have Oa : Hid (w4.heap.size ≤ a ∧ a < w5.heap.size) := Lib.hid ⟨ho, (Array.getElem?_eq_some_iff.1 hk.blk).1⟩
  clear hB ho hk
  go_wp2_with fail
  refine (newAcks_sys q ws gs w5 HS.out).mono ?_
  rintro e w6 ⟨b, rfl, ho, hk, hB⟩
  replace HS := Lib.hid (HS.out.below hB)
  replace HO := Lib.hid (HO.out.below hB)
  replace SQ := Lib.hid (SQ.out.below hB)
  replace SO := Lib.hid (SO.out.below hB)
  replace Ka := Lib.hid (keepb Ka.out hB)
  replace HB := Lib.hid (below_then HB.out HB.out.size hB)
  have Kb := Lib.hid hk.blk
  have Ob : Hid (w5.heap.size ≤ b ∧ b < w6.heap.size) := Lib.hid ⟨ho, (Array.getElem?_eq_some_iff.1 hk.blk).1⟩
  clear hB ho hk
  go_wp2_with fail
  refine (newAcks_sys o [1, 1, 1] [0, 1, 2] w6 HO.out).mono ?_
  rintro e w7 ⟨c, rfl, ho, hk, hB⟩
  replace HS := Lib.hid (HS.out.below hB)
  replace HO := Lib.hid (HO.out.below hB)
  replace SQ := Lib.hid (SQ.out.below hB)
  replace SO := Lib.hid (SO.out.below hB)
  replace Ka := Lib.hid (keepb Ka.out hB)
  replace Kb := Lib.hid (keepb Kb.out hB)
  replace HB := Lib.hid (below_then HB.out HB.out.size hB)
  have Kc := Lib.hid hk.blk
  have Oc : Hid (w6.heap.size ≤ c ∧ c < w7.heap.size) := Lib.hid ⟨ho, (Array.getElem?_eq_some_iff.1 hk.blk).1⟩
  clear hB ho hk
  go_wp2_with fail
  refine (newR_calls Aw Ag cw cg ws gs w7 (HW.out.below HB.out) (HG.out.below HB.out)).mono ?_
  rintro e w8 ⟨hB, ⟨_, r, rfl, ho, hs⟩ | ⟨hv, _⟩⟩
  rotate_left
  · exact absurd HV.out hv
  replace HS := Lib.hid (HS.out.below hB)
  replace HO := Lib.hid (HO.out.below hB)
  replace SQ := Lib.hid (SQ.out.below hB)
  replace SO := Lib.hid (SO.out.below hB)
  replace Ka := Lib.hid (keepb Ka.out hB)
  replace Kb := Lib.hid (keepb Kb.out hB)
  replace Kc := Lib.hid (keepb Kc.out hB)
  replace HB := Lib.hid (below_then HB.out HB.out.size hB)
  have HR := Lib.hid hs
  have Or : Hid (w7.heap.size ≤ r ∧ r < w8.heap.size) := Lib.hid ⟨ho, hs.lt⟩
  clear hB ho hs
  have hB := below_alloc (below_alloc (Below.refl w8.heap.size w8) (Obj.cells #[.int .i64 1, .int .i64 1, .int .i64 1] 3)) (Obj.cells #[.int .i64 0, .int .i64 1, .int .i64 2] 3)
  have hl1 := heap_alloc2_old w8 (Obj.cells #[.int .i64 1, .int .i64 1, .int .i64 1] 3) (Obj.cells #[.int .i64 0, .int .i64 1, .int .i64 2] 3)
  have hl2 := heap_alloc2_new w8 (Obj.cells #[.int .i64 1, .int .i64 1, .int .i64 1] 3) (Obj.cells #[.int .i64 0, .int .i64 1, .int .i64 2] 3)
  obtain ⟨w9, hW⟩ : ∃ W, (w8.alloc (Obj.cells #[.int .i64 1, .int .i64 1, .int .i64 1] 3)).alloc (Obj.cells #[.int .i64 0, .int .i64 1, .int .i64 2] 3) = W := ⟨_, rfl⟩
  rw [hW] at hB hl1 hl2
  have Hw9 := Lib.hid hW
  have HL1 := Lib.hid (rd_lit w9 _ 1 1 1 hl1)
  have HL2 := Lib.hid (rd_lit w9 _ 0 1 2 hl2)
  clear hW hl1 hl2
  replace HS := Lib.hid (HS.out.below hB)
  replace HO := Lib.hid (HO.out.below hB)
  replace SQ := Lib.hid (SQ.out.below hB)
  replace SO := Lib.hid (SO.out.below hB)
  replace Ka := Lib.hid (keepb Ka.out hB)
  replace Kb := Lib.hid (keepb Kb.out hB)
  replace Kc := Lib.hid (keepb Kc.out hB)
  replace HR := Lib.hid (HR.out.below hB)
  replace HB := Lib.hid (below_then HB.out HB.out.size hB)
  have O9 := Lib.hid hB.size
  clear hB
  go_wp2_with fail
  rw [Hw9.out]
  refine (newR_calls (some ⟨w8.heap.size, 0, none⟩) (some ⟨w8.heap.size + 1, 0, none⟩) 3 3 [1, 1, 1] [0, 1, 2] w9 HL1.out HL2.out).mono ?_
  rintro e w10 ⟨hB, ⟨_, t, rfl, ho, hs⟩ | ⟨hv, _⟩⟩
  rotate_left
  · exact absurd valid012 hv
  replace HS := Lib.hid (HS.out.below hB)
  replace HO := Lib.hid (HO.out.below hB)
  replace SQ := Lib.hid (SQ.out.below hB)
  replace SO := Lib.hid (SO.out.below hB)
  replace Ka := Lib.hid (keepb Ka.out hB)
  replace Kb := Lib.hid (keepb Kb.out hB)
  replace Kc := Lib.hid (keepb Kc.out hB)
  replace HR := Lib.hid (HR.out.below hB)
  replace HB := Lib.hid (below_then HB.out HB.out.size hB)
  have HT := Lib.hid (hs.lower (M' := w7.heap.size) (by have := O9.out; have := Or.out; omega))
  have Ot : Hid (w9.heap.size ≤ t ∧ t < w10.heap.size ∧ w9.heap.size ≤ w10.heap.size) := Lib.hid ⟨ho, hs.lt, hB.size⟩
  clear hB ho hs HL1 HL2 Hw9
  go_wp2_with fail
  refine (newAcksR r ws gs w10 HR.out).mono ?_
  rintro e w11 ⟨ra, h1, u1, rfl, o1, o2, o3, hk, hB⟩
  replace HS := Lib.hid (HS.out.below hB)
  replace HO := Lib.hid (HO.out.below hB)
  replace SQ := Lib.hid (SQ.out.below hB)
  replace SO := Lib.hid (SO.out.below hB)
  replace Ka := Lib.hid (keepb Ka.out hB)
  replace Kb := Lib.hid (keepb Kb.out hB)
  replace Kc := Lib.hid (keepb Kc.out hB)
  replace HR := Lib.hid (HR.out.below hB)
  replace HT := Lib.hid (HT.out.below hB)
  replace HB := Lib.hid (below_then HB.out HB.out.size hB)
  have Hra := Lib.hid hk
  have Ora : Hid ((w10.heap.size ≤ ra ∧ w10.heap.size ≤ h1 ∧ w10.heap.size ≤ u1) ∧ (ra < w11.heap.size ∧ h1 < w11.heap.size ∧ u1 < w11.heap.size)) := Lib.hid ⟨⟨o1, o2, o3⟩, hk.lt.2⟩
  clear hB o1 o2 o3 hk
  go_wp2_with fail
  refine (newAcksR r ws gs w11 HR.out).mono ?_
  rintro e w12 ⟨rb, h2, u2, rfl, o1, o2, o3, hk, hB⟩
  replace HS := Lib.hid (HS.out.below hB)
  replace HO := Lib.hid (HO.out.below hB)
  replace SQ := Lib.hid (SQ.out.below hB)
  replace SO := Lib.hid (SO.out.below hB)
  replace Ka := Lib.hid (keepb Ka.out hB)
  replace Kb := Lib.hid (keepb Kb.out hB)
  replace Kc := Lib.hid (keepb Kc.out hB)
  replace HR := Lib.hid (HR.out.below hB)
  replace HT := Lib.hid (HT.out.below hB)
  replace Hra := Lib.hid (Hra.out.below hB)
  replace HB := Lib.hid (below_then HB.out HB.out.size hB)
  have Hrb := Lib.hid hk
  have Orb : Hid ((w11.heap.size ≤ rb ∧ w11.heap.size ≤ h2 ∧ w11.heap.size ≤ u2) ∧ (rb < w12.heap.size ∧ h2 < w12.heap.size ∧ u2 < w12.heap.size)) := Lib.hid ⟨⟨o1, o2, o3⟩, hk.lt.2⟩
  clear hB o1 o2 o3 hk
  go_wp2_with fail
  refine (newAcksR t [1, 1, 1] [0, 1, 2] w12 HT.out).mono ?_
  rintro e w13 ⟨rc, h3, u3, rfl, o1, o2, o3, hk, hB⟩
  replace HS := Lib.hid (HS.out.below hB)
  replace HO := Lib.hid (HO.out.below hB)
  replace SQ := Lib.hid (SQ.out.below hB)
  replace SO := Lib.hid (SO.out.below hB)
  replace Ka := Lib.hid (keepb Ka.out hB)
  replace Kb := Lib.hid (keepb Kb.out hB)
  replace Kc := Lib.hid (keepb Kc.out hB)
  replace HR := Lib.hid (HR.out.below hB)
  replace HT := Lib.hid (HT.out.below hB)
  replace Hra := Lib.hid (Hra.out.below hB)
  replace Hrb := Lib.hid (Hrb.out.below hB)
  replace HB := Lib.hid (below_then HB.out HB.out.size hB)
  have Hrc := Lib.hid hk
  have Orc : Hid ((w12.heap.size ≤ rc ∧ w12.heap.size ≤ h3 ∧ w12.heap.size ≤ u3) ∧ (rc < w13.heap.size ∧ h3 < w13.heap.size ∧ u3 < w13.heap.size)) := Lib.hid ⟨⟨o1, o2, o3⟩, hk.lt.2⟩
  clear hB o1 o2 o3 hk
  have HST : Hid (St w w13 w7.heap.size w4.heap.size q o a b c r t ra h1 u1 rb h2 u2 rc h3 u3 ws gs [1, 1, 1] [0, 1, 2] (fun _ => ⟨false, 0, 0⟩) (fun _ => ⟨false, 0, 0⟩) (fun _ => ⟨false, 0, 0⟩) (fun _ => ⟨false, 0, 0⟩) (fun _ => ⟨false, 0, 0⟩) (fun _ => ⟨false, 0, 0⟩)) := Lib.hid (by
    have g0 := O0.out
    have g1 := Oa.out
    have g2 := Ob.out
    have g3 := Oc.out
    have g4 := Or.out
    have g5 := O9.out
    have g6 := Ot.out
    have g7 := Ora.out
    have g8 := Orb.out
    have g9 := Orc.out
    exact ⟨HB.out, SQ.out.1, SO.out.1, Ka.out, Kb.out, Kc.out, Hra.out, Hrb.out, Hrc.out, ⟨fun _ _ => rfl, fun _ _ => rfl, fun _ _ => rfl⟩, by omega, by omega, by omega, by omega⟩)
  clear O0 Oa Ob Oc Or O9 Ot Ora Orb Orc HB SQ SO Ka Kb Kc Hra Hrb Hrc HR HT HS HO HW HG HV
  go_wp2_with fail
  go_loopw [27] (fun v wr => ∃ i : Nat, v = .int .i64 i ∧ i ≤ p1.length + p2.length ∧ ∃ fa fb fc, Hid (St w wr w7.heap.size w4.heap.size q o a b c r t ra h1 u1 rb h2 u2 rc h3 u3 ws gs [1, 1, 1] [0, 1, 2] fa fb fc fa fb fc)) (fun v _ => p1.length + p2.length - (intOf v).toNat)
  case atStart => exact ⟨0, rfl, by omega, _, _, _, HST⟩
  case round =>
    clear HST
    obtain ⟨i, rfl, hi, fa, fb, fc, HST⟩ := hrel
    have HST0 := HST
    by_cases l1 : i < p1.length
    · skip
      obtain ⟨pb1, po1, hAp, hcells⟩ := HQ1.out.2 (by omega)
      subst hAp
      have G1 := Lib.hid (hcells i l1)
      have hpk := HK1.out i l1
      obtain ⟨z1, hz⟩ : ∃ x, p1.getD i ⟨0, 0, 0⟩ = x := ⟨_, rfl⟩
      rw [hz] at G1 hpk
      have HZ1 := Lib.hid hpk
      clear hcells hz hpk
      obtain ⟨g0, g1, g2⟩ := G1.out
      have g0 := pw_cell_below HST.out.bel g0
      have g1 := pw_cell_below HST.out.bel g1
      have g2 := pw_cell_below HST.out.bel g2
      go_wp2_with fail
      go_still_tail 11, (by kernel_rfl)
      change wpList _ _ _ _ _ (World.drew wr)
      clear g0 g1 g2
      have hkp := Lib.hid ((HST.out.below (Below.refl _ _).drew).put_a z1 HZ1.out)
      go_wp2_with fail
      refine hkp.out.mono ?_
      rintro e w21 ⟨⟨x, rfl⟩, hst⟩
      clear hkp
      replace HST := Lib.hid hst
      clear hst
      obtain ⟨g0, g1, g2⟩ := G1.out
      have g0 := pw_cell_below HST.out.bel g0
      have g1 := pw_cell_below HST.out.bel g1
      have g2 := pw_cell_below HST.out.bel g2
      go_wp2_with fail
      go_still_tail 11, (by kernel_rfl)
      change wpList _ _ _ _ _ (World.drew w21)
      clear g0 g1 g2
      have hkp := Lib.hid ((HST.out.below (Below.refl _ _).drew).put_ra z1 HZ1.out)
      go_wp2_with fail
      refine hkp.out.mono ?_
      rintro e w22 ⟨⟨x, rfl⟩, hst⟩
      clear hkp
      replace HST := Lib.hid hst
      clear hst
      obtain ⟨g0, g1, g2⟩ := G1.out
      have g0 := pw_cell_below HST.out.bel g0
      have g1 := pw_cell_below HST.out.bel g1
      have g2 := pw_cell_below HST.out.bel g2
      go_wp2_with fail
      go_still_tail 11, (by kernel_rfl)
      change wpList _ _ _ _ _ (World.drew w22)
      clear g0 g1 g2
      have hkp := Lib.hid ((HST.out.below (Below.refl _ _).drew).put_c z1 HZ1.out)
      go_wp2_with fail
      refine hkp.out.mono ?_
      rintro e w23 ⟨⟨x, rfl⟩, hst⟩
      clear hkp
      replace HST := Lib.hid hst
      clear hst
      obtain ⟨g0, g1, g2⟩ := G1.out
      have g0 := pw_cell_below HST.out.bel g0
      have g1 := pw_cell_below HST.out.bel g1
      have g2 := pw_cell_below HST.out.bel g2
      go_wp2_with fail
      go_still_tail 11, (by kernel_rfl)
      change wpList _ _ _ _ _ (World.drew w23)
      clear g0 g1 g2
      have hkp := Lib.hid ((HST.out.below (Below.refl _ _).drew).put_rc z1 HZ1.out)
      go_wp2_with fail
      refine hkp.out.mono ?_
      rintro e w24 ⟨⟨x, rfl⟩, hst⟩
      clear hkp
      replace HST := Lib.hid hst
      clear hst
      by_cases l2 : i < p2.length
      · skip
        obtain ⟨pb2, po2, hAp, hcells⟩ := HQ2.out.2 (by omega)
        subst hAp
        have G2 := Lib.hid (hcells i l2)
        have hpk := HK2.out i l2
        obtain ⟨z2, hz⟩ : ∃ x, p2.getD i ⟨0, 0, 0⟩ = x := ⟨_, rfl⟩
        rw [hz] at G2 hpk
        have HZ2 := Lib.hid hpk
        clear hcells hz hpk
        obtain ⟨g0, g1, g2⟩ := G2.out
        have g0 := pw_cell_below HST.out.bel g0
        have g1 := pw_cell_below HST.out.bel g1
        have g2 := pw_cell_below HST.out.bel g2
        go_wp2_with fail
        go_still_tail 11, (by kernel_rfl)
        change wpList _ _ _ _ _ (World.drew w24)
        clear g0 g1 g2
        have hkp := Lib.hid ((HST.out.below (Below.refl _ _).drew).put_b z2 HZ2.out)
        go_wp2_with fail
        refine hkp.out.mono ?_
        rintro e w25 ⟨⟨x, rfl⟩, hst⟩
        clear hkp
        replace HST := Lib.hid hst
        clear hst
        obtain ⟨g0, g1, g2⟩ := G2.out
        have g0 := pw_cell_below HST.out.bel g0
        have g1 := pw_cell_below HST.out.bel g1
        have g2 := pw_cell_below HST.out.bel g2
        go_wp2_with fail
        go_still_tail 11, (by kernel_rfl)
        change wpList _ _ _ _ _ (World.drew w25)
        clear g0 g1 g2
        have hkp := Lib.hid ((HST.out.below (Below.refl _ _).drew).put_rb z2 HZ2.out)
        go_wp2_with fail
        refine hkp.out.mono ?_
        rintro e w26 ⟨⟨x, rfl⟩, hst⟩
        clear hkp
        replace HST := Lib.hid hst
        clear hst
        go_wp2
        exact ⟨⟨i + 1, by go_num, by omega, _, _, _, HST⟩, by simp [intOf]; omega⟩
      · skip
        go_wp2
        exact ⟨⟨i + 1, by go_num, by omega, _, _, _, HST⟩, by simp [intOf]; omega⟩
    · by_cases l2 : i < p2.length
      · skip
        obtain ⟨pb2, po2, hAp, hcells⟩ := HQ2.out.2 (by omega)
        subst hAp
        have G2 := Lib.hid (hcells i l2)
        have hpk := HK2.out i l2
        obtain ⟨z2, hz⟩ : ∃ x, p2.getD i ⟨0, 0, 0⟩ = x := ⟨_, rfl⟩
        rw [hz] at G2 hpk
        have HZ2 := Lib.hid hpk
        clear hcells hz hpk
        obtain ⟨g0, g1, g2⟩ := G2.out
        have g0 := pw_cell_below HST.out.bel g0
        have g1 := pw_cell_below HST.out.bel g1
        have g2 := pw_cell_below HST.out.bel g2
        go_wp2_with fail
        go_still_tail 11, (by kernel_rfl)
        change wpList _ _ _ _ _ (World.drew wr)
        clear g0 g1 g2
        have hkp := Lib.hid ((HST.out.below (Below.refl _ _).drew).put_b z2 HZ2.out)
        go_wp2_with fail
        refine hkp.out.mono ?_
        rintro e w27 ⟨⟨x, rfl⟩, hst⟩
        clear hkp
        replace HST := Lib.hid hst
        clear hst
        obtain ⟨g0, g1, g2⟩ := G2.out
        have g0 := pw_cell_below HST.out.bel g0
        have g1 := pw_cell_below HST.out.bel g1
        have g2 := pw_cell_below HST.out.bel g2
        go_wp2_with fail
        go_still_tail 11, (by kernel_rfl)
        change wpList _ _ _ _ _ (World.drew w27)
        clear g0 g1 g2
        have hkp := Lib.hid ((HST.out.below (Below.refl _ _).drew).put_rb z2 HZ2.out)
        go_wp2_with fail
        refine hkp.out.mono ?_
        rintro e w28 ⟨⟨x, rfl⟩, hst⟩
        clear hkp
        replace HST := Lib.hid hst
        clear hst
        go_wp2
        exact ⟨⟨i + 1, by go_num, by omega, _, _, _, HST⟩, by simp [intOf]; omega⟩
      · skip
        have HB := Lib.hid HST.out.bel
        obtain ⟨BA, hba⟩ : ∃ x, bestTo ws gs fa 7 = x := ⟨_, rfl⟩
        obtain ⟨BB, hbb⟩ : ∃ x, bestTo ws gs fb 7 = x := ⟨_, rfl⟩
        obtain ⟨BC, hbc⟩ : ∃ x, bestTo [1, 1, 1] [0, 1, 2] fc 7 = x := ⟨_, rfl⟩
        have EA := Lib.hid hba
        have EB := Lib.hid hbb
        have EC := Lib.hid hbc
        obtain ⟨sa, ea, na⟩ := BA
        obtain ⟨sb, eb, nb⟩ := BB
        obtain ⟨sc, ec, nc⟩ := BC
        clear hba hbb hbc HST0
        go_wp2_with fail
        have hkk := HST.out.com_a
        rw [EA.out] at hkk
        refine hkk.mono ?_
        rintro e v30 ⟨rfl, hB⟩
        clear hkk
        replace HST := Lib.hid (HST.out.below hB)
        replace HB := Lib.hid (below_then HB.out HB.out.size hB)
        clear hB
        have hB := below_alloc (Below.refl v30.heap.size v30) (Obj.cells #[Value.int .u32 ea, Value.int .u32 na] 44)
        have hX := heap_alloc_new v30 (Obj.cells #[Value.int .u32 ea, Value.int .u32 na] 44)
        obtain ⟨W30, hW⟩ : ∃ W, v30.alloc (Obj.cells #[Value.int .u32 ea, Value.int .u32 na] 44) = W := ⟨_, rfl⟩
        rw [hW] at hB hX
        have HW30 := Lib.hid hW
        have X30 := Lib.hid hX
        clear hW hX
        replace HST := Lib.hid (HST.out.below hB)
        replace HB := Lib.hid (below_then HB.out HB.out.size hB)
        clear hB
        go_wp2_with fail
        rw [HW30.out]
        clear HW30
        have hkk := HST.out.com_b
        rw [EB.out] at hkk
        refine hkk.mono ?_
        rintro e v31 ⟨rfl, hB⟩
        clear hkk
        replace HST := Lib.hid (HST.out.below hB)
        replace X30 := Lib.hid (keepb X30.out hB)
        replace HB := Lib.hid (below_then HB.out HB.out.size hB)
        clear hB
        have hB := below_alloc (Below.refl v31.heap.size v31) (Obj.cells #[Value.int .u32 eb, Value.int .u32 nb] 44)
        have hX := heap_alloc_new v31 (Obj.cells #[Value.int .u32 eb, Value.int .u32 nb] 44)
        obtain ⟨W31, hW⟩ : ∃ W, v31.alloc (Obj.cells #[Value.int .u32 eb, Value.int .u32 nb] 44) = W := ⟨_, rfl⟩
        rw [hW] at hB hX
        have HW31 := Lib.hid hW
        have X31 := Lib.hid hX
        clear hW hX
        replace HST := Lib.hid (HST.out.below hB)
        replace X30 := Lib.hid (keepb X30.out hB)
        replace HB := Lib.hid (below_then HB.out HB.out.size hB)
        clear hB
        go_wp2_with fail
        rw [HW31.out]
        clear HW31
        have hkk := HST.out.com_c
        rw [EC.out] at hkk
        refine hkk.mono ?_
        rintro e v32 ⟨rfl, hB⟩
        clear hkk
        replace HST := Lib.hid (HST.out.below hB)
        replace X30 := Lib.hid (keepb X30.out hB)
        replace X31 := Lib.hid (keepb X31.out hB)
        replace HB := Lib.hid (below_then HB.out HB.out.size hB)
        clear hB
        have hB := below_alloc (Below.refl v32.heap.size v32) (Obj.cells #[Value.int .u32 ec, Value.int .u32 nc] 44)
        have hX := heap_alloc_new v32 (Obj.cells #[Value.int .u32 ec, Value.int .u32 nc] 44)
        obtain ⟨W32, hW⟩ : ∃ W, v32.alloc (Obj.cells #[Value.int .u32 ec, Value.int .u32 nc] 44) = W := ⟨_, rfl⟩
        rw [hW] at hB hX
        have HW32 := Lib.hid hW
        have X32 := Lib.hid hX
        clear hW hX
        replace HST := Lib.hid (HST.out.below hB)
        replace X30 := Lib.hid (keepb X30.out hB)
        replace X31 := Lib.hid (keepb X31.out hB)
        replace HB := Lib.hid (below_then HB.out HB.out.size hB)
        clear hB
        go_wp2_with fail
        rw [HW32.out]
        clear HW32
        have hkk := HST.out.com_ra
        rw [EA.out] at hkk
        refine hkk.mono ?_
        rintro e v33 ⟨rfl, hB⟩
        clear hkk
        replace HST := Lib.hid (HST.out.below hB)
        replace X30 := Lib.hid (keepb X30.out hB)
        replace X31 := Lib.hid (keepb X31.out hB)
        replace X32 := Lib.hid (keepb X32.out hB)
        replace HB := Lib.hid (below_then HB.out HB.out.size hB)
        clear hB
        have hB := below_alloc (Below.refl v33.heap.size v33) (Obj.cells #[Value.int .u32 ea, Value.int .u32 na] 44)
        have hX := heap_alloc_new v33 (Obj.cells #[Value.int .u32 ea, Value.int .u32 na] 44)
        obtain ⟨W33, hW⟩ : ∃ W, v33.alloc (Obj.cells #[Value.int .u32 ea, Value.int .u32 na] 44) = W := ⟨_, rfl⟩
        rw [hW] at hB hX
        have HW33 := Lib.hid hW
        have X33 := Lib.hid hX
        clear hW hX
        replace HST := Lib.hid (HST.out.below hB)
        replace X30 := Lib.hid (keepb X30.out hB)
        replace X31 := Lib.hid (keepb X31.out hB)
        replace X32 := Lib.hid (keepb X32.out hB)
        replace HB := Lib.hid (below_then HB.out HB.out.size hB)
        clear hB
        go_wp2_with fail
        rw [HW33.out]
        clear HW33
        have hkk := HST.out.com_rb
        rw [EB.out] at hkk
        refine hkk.mono ?_
        rintro e v34 ⟨rfl, hB⟩
        clear hkk
        replace HST := Lib.hid (HST.out.below hB)
        replace X30 := Lib.hid (keepb X30.out hB)
        replace X31 := Lib.hid (keepb X31.out hB)
        replace X32 := Lib.hid (keepb X32.out hB)
        replace X33 := Lib.hid (keepb X33.out hB)
        replace HB := Lib.hid (below_then HB.out HB.out.size hB)
        clear hB
        have hB := below_alloc (Below.refl v34.heap.size v34) (Obj.cells #[Value.int .u32 eb, Value.int .u32 nb] 44)
        have hX := heap_alloc_new v34 (Obj.cells #[Value.int .u32 eb, Value.int .u32 nb] 44)
        obtain ⟨W34, hW⟩ : ∃ W, v34.alloc (Obj.cells #[Value.int .u32 eb, Value.int .u32 nb] 44) = W := ⟨_, rfl⟩
        rw [hW] at hB hX
        have HW34 := Lib.hid hW
        have X34 := Lib.hid hX
        clear hW hX
        replace HST := Lib.hid (HST.out.below hB)
        replace X30 := Lib.hid (keepb X30.out hB)
        replace X31 := Lib.hid (keepb X31.out hB)
        replace X32 := Lib.hid (keepb X32.out hB)
        replace X33 := Lib.hid (keepb X33.out hB)
        replace HB := Lib.hid (below_then HB.out HB.out.size hB)
        clear hB
        go_wp2_with fail
        rw [HW34.out]
        clear HW34
        have hkk := HST.out.com_rc
        rw [EC.out] at hkk
        refine hkk.mono ?_
        rintro e v35 ⟨rfl, hB⟩
        clear hkk
        replace HST := Lib.hid (HST.out.below hB)
        replace X30 := Lib.hid (keepb X30.out hB)
        replace X31 := Lib.hid (keepb X31.out hB)
        replace X32 := Lib.hid (keepb X32.out hB)
        replace X33 := Lib.hid (keepb X33.out hB)
        replace X34 := Lib.hid (keepb X34.out hB)
        replace HB := Lib.hid (below_then HB.out HB.out.size hB)
        clear hB
        have hB := below_alloc (Below.refl v35.heap.size v35) (Obj.cells #[Value.int .u32 ec, Value.int .u32 nc] 44)
        have hX := heap_alloc_new v35 (Obj.cells #[Value.int .u32 ec, Value.int .u32 nc] 44)
        obtain ⟨W35, hW⟩ : ∃ W, v35.alloc (Obj.cells #[Value.int .u32 ec, Value.int .u32 nc] 44) = W := ⟨_, rfl⟩
        rw [hW] at hB hX
        have HW35 := Lib.hid hW
        have X35 := Lib.hid hX
        clear hW hX
        replace HST := Lib.hid (HST.out.below hB)
        replace X30 := Lib.hid (keepb X30.out hB)
        replace X31 := Lib.hid (keepb X31.out hB)
        replace X32 := Lib.hid (keepb X32.out hB)
        replace X33 := Lib.hid (keepb X33.out hB)
        replace X34 := Lib.hid (keepb X34.out hB)
        replace HB := Lib.hid (below_then HB.out HB.out.size hB)
        clear hB
        obtain ⟨p50, q50⟩ := box44 X30.out
        obtain ⟨p51, q51⟩ := box44 X31.out
        obtain ⟨p52, q52⟩ := box44 X32.out
        obtain ⟨p53, q53⟩ := box44 X33.out
        obtain ⟨p54, q54⟩ := box44 X34.out
        obtain ⟨p55, q55⟩ := box44 X35.out
        rw [← HW35.out] at p50 q50 p51 q51 p52 q52 p53 q53 p54 q54 p55 q55
        go_wp2
        rw [HW35.out]
        go_ret
        exact ⟨rfl, HB.out⟩
end Go.Proofs.Ytfkbknkmanphfaa.Q
