import Derived.Test.YtfkbknkmanphfaaV
namespace Go.Proofs.Ytfkbknkmanphfaa.Q
open Go.RowKit Go.Proofs.YtfkbknkmanphfaaW.PrintWords Go.Sort Go.Deep
set_option linter.unusedVariables false
set_option linter.unusedSimpArgs false

theorem addr_block (a : Addr) (n : Nat) : (a.add n).block = a.block := by unfold Addr.add; split <;> rfl
theorem SysLo.keep {L : Nat} {w w1 : World} {b : Nat} {ws gs : List Int} (h : SysLo L w b ws gs) (hk : ∀ k, L ≤ k → w1.heap[k]? = w.heap[k]?) : SysLo L w1 b ws gs := by
  obtain ⟨v, aw, ag, cw, cg, l0, l1, l2, h0, h1, h2, h3, h4, h5⟩ := h
  have K : ∀ (p : Addr) (x : Value), L ≤ p.block → w.cell? p = some x → w1.cell? p = some x := fun p x hp hx => (World.cell?_of_block (w := w) (hk p.block hp)).trans hx
  exact ⟨v, aw, ag, cw, cg, l0, l1, l2, K _ _ l0 h0, K _ _ l0 h1, fun g hg => K _ _ l0 (h2 g hg), K _ _ l0 h3, fun i hi => K _ _ (by rw [addr_block]; exact l1) (h4 i hi), fun i hi => K _ _ (by rw [addr_block]; exact l2) (h5 i hi)⟩
theorem SysLo.below {L : Nat} {w w1 : World} {b : Nat} {ws gs : List Int} (h : SysLo L w b ws gs) (hB : Below w.heap.size w w1) : SysLo L w1 b ws gs := by
  obtain ⟨v, aw, ag, cw, cg, l0, l1, l2, h0, h1, h2, h3, h4, h5⟩ := h
  exact ⟨v, aw, ag, cw, cg, l0, l1, l2, pw_cell_below hB h0, pw_cell_below hB h1, fun g hg => pw_cell_below hB (h2 g hg), pw_cell_below hB h3, fun i hi => pw_cell_below hB (h4 i hi), fun i hi => pw_cell_below hB (h5 i hi)⟩
theorem RSys.mono {M N : Nat} {w : World} {r : Nat} {ws gs : List Int} (h : RSys M w r ws gs) (hn : N ≤ M) : RSys N w r ws gs := by
  obtain ⟨v, g1, c1, g2, c2, hb, l1, l2, e⟩ := h
  exact ⟨v, g1, c1, g2, c2, hb, ⟨by omega, l1.2⟩, ⟨by omega, l2.2⟩, e⟩
theorem wide_rd {w : World} {g : Nat} {ws : List Int} (h : w.rowIs g 3 (ws.length + 64) (fun i => .int .i64 (valW ws i))) (hl : ws.length < 2147483647) : Rd w (some ⟨g, 0, none⟩) ws :=
  ⟨by omega, fun _ => ⟨_, rfl, fun i hi => by
    rw [add_plain, h.cell (by omega)]; simp [valW, hi]⟩⟩

set_option maxRecDepth 100000 in
set_option maxHeartbeats 16000000 in
theorem news_long (Aw Ag : Option Addr) (cw cg : Nat) (ws gs : List Int) (w : World) (h1 : ws.length ≤ 9223372036854775807) (h2 : gs.length ≤ 9223372036854775807) (h : 2147483647 ≤ ws.length ∨ 2147483647 ≤ gs.length) :
    Calls Try.prog 5 #[.slice Aw ws.length cw, .slice Ag gs.length cg] w fun e w' => e = .returned (.bool true) ∧ Below w.heap.size w w' := by
  by_cases c : 2147483647 ≤ ws.length
  · go_enter Try.func5, Try.ntmps5
    go_wp2_with fail
    refine (long_calls' _ (by omega) _).mono ?_
    rintro e wx ⟨rfl, rfl⟩
    go_wp2
    go_ret
    exact ⟨rfl, Below.refl _ _⟩
  · go_enter Try.func5, Try.ntmps5
    go_wp2_with fail
    refine (long_calls _ (by omega) _).mono ?_
    rintro e wx ⟨rfl, rfl⟩
    go_wp2_with fail
    refine (long_calls' _ (by omega) _).mono ?_
    rintro e wx ⟨rfl, rfl⟩
    go_wp2
    go_ret
    exact ⟨rfl, Below.refl _ _⟩

set_option maxRecDepth 100000 in
set_option maxHeartbeats 16000000 in
theorem news_no (Aw Ag : Option Addr) (cw cg : Nat) (ws gs : List Int) (w : World) (hw : Rd w Aw ws) (hg : Rd w Ag gs) (h1 : ws.length < 2147483647) (h2 : gs.length < 2147483647) (hv : ¬ Valid ws gs) :
    Calls Try.prog 5 #[.slice Aw ws.length cw, .slice Ag gs.length cg] w fun e w' => e = .returned (.bool true) ∧ Below w.heap.size w w' := by
  have HW := Lib.hid hw
  have HG := Lib.hid hg
  have HV := Lib.hid hv
  clear hw hg hv
  go_enter Try.func5, Try.ntmps5
  go_wp2_with fail
  refine (long_calls _ (by omega) _).mono ?_
  rintro e wx ⟨rfl, rfl⟩
  go_wp2_with fail
  refine (long_calls _ (by omega) _).mono ?_
  rintro e wx ⟨rfl, rfl⟩
  go_wp2_with fail
  refine (wide_calls Aw cw ws w HW.out (by omega)).mono ?_
  rintro e w1 ⟨gw, rfl, lgw, rw1, hB1⟩
  have HB1 := Lib.hid hB1
  have W1 := Lib.hid rw1
  replace HW := Lib.hid (HW.out.below hB1)
  replace HG := Lib.hid (HG.out.below hB1)
  clear hB1 rw1
  go_wp2_with fail
  refine (wide_calls Ag cg gs w1 HG.out (by omega)).mono ?_
  rintro e w2 ⟨gg, rfl, lgg, rw2, hB2⟩
  have HB2 := Lib.hid (below_then HB1.out HB1.out.size hB2)
  have G2 := Lib.hid rw2
  have W2 := Lib.hid (W1.out.of_block (hB2.block gw W1.out.lt))
  replace HW := Lib.hid (HW.out.below hB2)
  replace HG := Lib.hid (HG.out.below hB2)
  clear hB2 rw2 HB1 W1
  go_wp2_with fail
  refine (new_callsL _ _ _ _ ws gs w2 (wide_rd W2.out (by omega)) (wide_rd G2.out (by omega))).mono ?_
  rintro e w3 ⟨hB3, ⟨v, _⟩ | ⟨-, rfl⟩⟩
  · exact absurd v HV.out
  have HB3 := Lib.hid (below_then HB2.out HB2.out.size hB3)
  have G3 := Lib.hid (G2.out.of_block (hB3.block gg G2.out.lt))
  have W3 := Lib.hid (W2.out.of_block (hB3.block gw W2.out.lt))
  replace HW := Lib.hid (HW.out.below hB3)
  replace HG := Lib.hid (HG.out.below hB3)
  clear hB3 HB2 W2 G2
  go_wp2_with fail
  refine (newR_calls _ _ _ _ ws gs w3 HW.out HG.out).mono ?_
  rintro e w4 ⟨hB4, ⟨v, _⟩ | ⟨-, rfl⟩⟩
  · exact absurd v HV.out
  have HB4 := Lib.hid (below_then HB3.out HB3.out.size hB4)
  have G4 := Lib.hid (G3.out.of_block (hB4.block gg G3.out.lt))
  have W4 := Lib.hid (W3.out.of_block (hB4.block gw W3.out.lt))
  replace HW := Lib.hid (HW.out.below hB4)
  replace HG := Lib.hid (HG.out.below hB4)
  clear hB4 HB3 W3 G3
  go_wp2_with fail
  refine (eq_calls gw Aw cw ws w4 (by omega) W4.out HW.out).mono ?_
  rintro e w5 ⟨rfl, hB5⟩
  have HB5 := Lib.hid (below_then HB4.out HB4.out.size hB5)
  have G5 := Lib.hid (G4.out.of_block (hB5.block gg G4.out.lt))
  have W5 := Lib.hid (W4.out.of_block (hB5.block gw W4.out.lt))
  replace HG := Lib.hid (HG.out.below hB5)
  clear hB5 HB4 W4 G4 HW
  go_wp2_with fail
  refine (eq_calls gg Ag cg gs w5 (by omega) G5.out HG.out).mono ?_
  rintro e w6 ⟨rfl, hB6⟩
  have HB6 := Lib.hid (below_then HB5.out HB5.out.size hB6)
  have G6 := Lib.hid (G5.out.of_block (hB6.block gg G5.out.lt))
  have W6 := Lib.hid (W5.out.of_block (hB6.block gw W5.out.lt))
  clear hB6 HB5 W5 G5 HG
  go_wp2_with fail
  refine (spare_calls gw ws w6 (by omega) W6.out).mono ?_
  rintro e wx ⟨rfl, rfl⟩
  go_wp2_with fail
  refine (spare_calls gg gs w6 (by omega) G6.out).mono ?_
  rintro e wx ⟨rfl, rfl⟩
  go_wp2_with fail
  refine (lives_calls w6).mono ?_
  rintro e w7 ⟨rfl, hB7⟩
  have HB7 := Lib.hid (below_then HB6.out HB6.out.size hB7)
  clear hB7
  go_wp2
  go_ret
  exact ⟨rfl, HB7.out⟩

set_option maxRecDepth 100000 in
set_option maxHeartbeats 16000000 in
theorem news_yes (Aw Ag : Option Addr) (cw cg : Nat) (ws gs : List Int) (w : World) (hw : Rd w Aw ws) (hg : Rd w Ag gs) (h1 : ws.length < 2147483647) (h2 : gs.length < 2147483647) (hv : Valid ws gs) :
    Calls Try.prog 5 #[.slice Aw ws.length cw, .slice Ag gs.length cg] w fun e w' => e = .returned (.bool true) ∧ Below w.heap.size w w' := by
  have HW := Lib.hid hw
  have HG := Lib.hid hg
  have HV := Lib.hid hv
  have h7 := hv.le7
  clear hw hg hv
  go_enter Try.func5, Try.ntmps5
  go_wp2_with fail
  refine (long_calls _ (by omega) _).mono ?_
  rintro e wx ⟨rfl, rfl⟩
  go_wp2_with fail
  refine (long_calls _ (by omega) _).mono ?_
  rintro e wx ⟨rfl, rfl⟩
  go_wp2_with fail
  refine (wide_calls Aw cw ws w HW.out (by omega)).mono ?_
  rintro e w1 ⟨gw, rfl, lgw, rw1, hB1⟩
  have HB1 := Lib.hid hB1
  have W1 := Lib.hid rw1
  replace HW := Lib.hid (HW.out.below hB1)
  replace HG := Lib.hid (HG.out.below hB1)
  clear hB1 rw1
  go_wp2_with fail
  refine (wide_calls Ag cg gs w1 HG.out (by omega)).mono ?_
  rintro e w2 ⟨gg, rfl, lgg, rw2, hB2⟩
  have HB2 := Lib.hid (below_then HB1.out HB1.out.size hB2)
  have G2 := Lib.hid rw2
  have W2 := Lib.hid (W1.out.of_block (hB2.block gw W1.out.lt))
  replace HW := Lib.hid (HW.out.below hB2)
  replace HG := Lib.hid (HG.out.below hB2)
  have W1lt : gw < w1.heap.size := W1.out.lt
  clear hB2 rw2 HB1 W1
  go_wp2_with fail
  refine (new_callsL _ _ _ _ ws gs w2 (wide_rd W2.out (by omega)) (wide_rd G2.out (by omega))).mono ?_
  rintro e w3 ⟨hB3, hX⟩
  obtain ⟨-, b, rfl, lb, hS⟩ := hX.resolve_right (fun h => h.1 HV.out)
  have HB3 := Lib.hid (below_then HB2.out HB2.out.size hB3)
  have G3 := Lib.hid (G2.out.of_block (hB3.block gg G2.out.lt))
  have W3 := Lib.hid (W2.out.of_block (hB3.block gw W2.out.lt))
  replace HW := Lib.hid (HW.out.below hB3)
  replace HG := Lib.hid (HG.out.below hB3)
  have lo : w2.heap.size ≤ w3.heap.size := hB3.size
  have lw : gw < w2.heap.size := W2.out.lt
  have lg : gg < w2.heap.size := G2.out.lt
  have nwg : gw ≠ gg := by have := W1lt; omega
  have S3 := Lib.hid hS
  clear hB3 HB2 W2 G2 hS
  go_wp2_with fail
  refine (newR_calls _ _ _ _ ws gs w3 HW.out HG.out).mono ?_
  rintro e w4 ⟨hB4, hX⟩
  obtain ⟨-, r, rfl, lr, hR⟩ := hX.resolve_right (fun h => h.1 HV.out)
  have HB4 := Lib.hid (below_then HB3.out HB3.out.size hB4)
  have G4 := Lib.hid (G3.out.of_block (hB4.block gg G3.out.lt))
  have W4 := Lib.hid (W3.out.of_block (hB4.block gw W3.out.lt))
  replace HW := Lib.hid (HW.out.below hB4)
  replace HG := Lib.hid (HG.out.below hB4)
  have S4 := Lib.hid (S3.out.below hB4)
  have R4 := Lib.hid (hR.mono lo)
  clear hB4 HB3 W3 G3 S3 hR
  go_wp2_with fail
  refine (eq_calls gw Aw cw ws w4 (by omega) W4.out HW.out).mono ?_
  rintro e w5 ⟨rfl, hB5⟩
  have HB5 := Lib.hid (below_then HB4.out HB4.out.size hB5)
  have G5 := Lib.hid (G4.out.of_block (hB5.block gg G4.out.lt))
  have W5 := Lib.hid (W4.out.of_block (hB5.block gw W4.out.lt))
  replace HG := Lib.hid (HG.out.below hB5)
  have S5 := Lib.hid (S4.out.below hB5)
  have R5 := Lib.hid (R4.out.below hB5)
  clear hB5 HB4 W4 G4 HW S4 R4
  go_wp2_with fail
  refine (eq_calls gg Ag cg gs w5 (by omega) G5.out HG.out).mono ?_
  rintro e w6 ⟨rfl, hB6⟩
  have HB6 := Lib.hid (below_then HB5.out HB5.out.size hB6)
  have G6 := Lib.hid (G5.out.of_block (hB6.block gg G5.out.lt))
  have W6 := Lib.hid (W5.out.of_block (hB6.block gw W5.out.lt))
  have S6 := Lib.hid (S5.out.below hB6)
  have R6 := Lib.hid (R5.out.below hB6)
  clear hB6 HB5 W5 G5 HG S5 R5
  go_wp2_with fail
  refine (spare_calls gw ws w6 (by omega) W6.out).mono ?_
  rintro e wx ⟨rfl, rfl⟩
  go_wp2_with fail
  refine (spare_calls gg gs w6 (by omega) G6.out).mono ?_
  rintro e wx ⟨rfl, rfl⟩
  go_wp2_with fail
  go_loopw [11] (fun v wr => ∃ k : Nat, k ≤ ws.length ∧ v = .int .i64 k ∧ Hid (∃ F : Nat → Int, wr.rowIs gw 3 (ws.length + 64) (fun i => .int .i64 (F i)) ∧ ∀ i, k ≤ i → i < ws.length → F i = ws.getD i 0) ∧ Hid (∃ F : Nat → Int, wr.rowIs gg 3 (gs.length + 64) (fun i => .int .i64 (F i))) ∧ Hid (Below w.heap.size w wr) ∧ Hid (SysLo w2.heap.size wr b ws gs) ∧ Hid (RSys w2.heap.size wr r ws gs)) (fun v _ => ws.length - (intOf v).toNat)
  case atStart => exact ⟨0, by omega, rfl, Lib.hid ⟨_, W6.out, fun i _ hi => by simp [valW, hi]⟩, Lib.hid ⟨_, G6.out⟩, HB6, S6, R6⟩
  case round =>
    obtain ⟨k, hk, rfl, HF, HF2, HB, HS, HR⟩ := hrel
    clear W6 G6 HB6 S6 R6
    by_cases hlt : k < ws.length
    · obtain ⟨F, f0, f1⟩ := HF.out
      obtain ⟨F2, f2⟩ := HF2.out
      have x0 := f0.cell (i := k) (by omega)
      have y0 := f0.frozen k
      have y1 := f2.frozen k
      have e0 := f1 k (Nat.le_refl _) hlt
      have r0 := HV.out.wr k hlt
      have gl := HV.out.len
      rw [e0] at x0
      obtain ⟨y, hy⟩ : ∃ y, ws.getD k 0 = y := ⟨_, rfl⟩
      rw [hy] at x0 r0
      have N1 : Hid (∃ F' : Nat → Int, ((wr.setCell ⟨gw, k, none⟩ (.int .i64 (1 - y))).setCell ⟨gg, k, none⟩ (.int .i64 k)).rowIs gw 3 (ws.length + 64) (fun i => .int .i64 (F' i)) ∧ ∀ i, k + 1 ≤ i → i < ws.length → F' i = ws.getD i 0) :=
        Lib.hid ⟨fun i => if i = k then 1 - y else F i, ((f0.set k (.int .i64 (1 - y))).setOther (a := ⟨gg, k, none⟩) nwg (.int .i64 k)).congr (fun i hi => by by_cases e : i = k <;> simp [e]), fun i hi hi2 => by
          have : i ≠ k := by omega
          simp only [this, if_false]
          exact f1 i (by omega) hi2⟩
      have f3 := f2.setOther (a := ⟨gw, k, none⟩) (fun h => nwg h.symm) (.int .i64 (1 - y))
      have y3 := f3.frozen k
      have x3 := f3.cell (i := k) (by omega)
      have N2 : Hid (∃ F' : Nat → Int, ((wr.setCell ⟨gw, k, none⟩ (.int .i64 (1 - y))).setCell ⟨gg, k, none⟩ (.int .i64 k)).rowIs gg 3 (gs.length + 64) (fun i => .int .i64 (F' i))) :=
        Lib.hid ⟨fun i => if i = k then k else F2 i, (f3.set k (.int .i64 k)).congr (fun i hi => by by_cases e : i = k <;> simp [e])⟩
      have N3 : Hid (Below w.heap.size w ((wr.setCell ⟨gw, k, none⟩ (.int .i64 (1 - y))).setCell ⟨gg, k, none⟩ (.int .i64 k))) := Lib.hid ((HB.out.setCell lgw _).setCell (show w.heap.size ≤ gg by omega) _)
      have N4 : Hid (∀ j, w2.heap.size ≤ j → ((wr.setCell ⟨gw, k, none⟩ (.int .i64 (1 - y))).setCell ⟨gg, k, none⟩ (.int .i64 k)).heap[j]? = wr.heap[j]?) := Lib.hid (fun j hj => by
        rw [blk_setCell_other _ _ _ _ (show j ≠ gg by omega), blk_setCell_other _ _ _ _ (show j ≠ gw by omega)])
      clear f0 f1 f2 f3 HF HF2 hy
      go_wp2
      exact ⟨⟨k + 1, by omega, by go_num, N1, N2, N3, Lib.hid (HS.out.keep N4.out), Lib.hid (HR.out.keep (fun j hj _ => N4.out j hj))⟩, by simp [intOf]; omega⟩
    · obtain rfl : k = ws.length := by omega
      clear HF HF2
      have SY := Lib.hid HS.out.sys
      go_wp2_with fail
      refine (size_sys b ws gs wr SY.out).mono ?_
      rintro e wx ⟨rfl, rfl⟩
      go_wp2_with fail
      refine (sizeR r ws gs wr HR.out).mono ?_
      rintro e wx ⟨rfl, rfl⟩
      go_wp2_with fail
      go_loop [12] (fun v => ∃ i : Nat, i ≤ 256 ∧ v = .int .i64 ((i : Int) - 128)) (fun v => 128 - intOf v |>.toNat)
      case atStart => exact ⟨0, by omega, rfl⟩
      case round =>
        obtain ⟨i, hi, rfl⟩ := hrel
        by_cases hlt : i < 256
        · have C0 := Lib.hid (counts_sys b ws gs wr SY.out ((i : Int) - 128) (by omega))
          have C1 := Lib.hid (countsR r ws gs wr HR.out ((i : Int) - 128) (by omega))
          obtain ⟨c, hc⟩ : ∃ c, countsB ws ((i : Int) - 128) = c := ⟨_, rfl⟩
          rw [hc] at C0 C1
          clear hc
          go_wp2_with fail
          refine C0.out.mono ?_
          rintro e wx ⟨rfl, rfl⟩
          go_wp2_with fail
          refine C1.out.mono ?_
          rintro e wx ⟨rfl, rfl⟩
          cases c <;> (go_wp2; exact ⟨⟨i + 1, by omega, by go_num⟩, by simp [intOf]; omega⟩)
        · obtain rfl : i = 256 := by omega
          clear SY
          go_wp2_with fail
          go_loopw [13] (fun v wr => ∃ i : Nat, i ≤ 256 ∧ v = .int .i64 i ∧ Hid (Below w.heap.size w wr) ∧ Hid (SysLo w2.heap.size wr b ws gs) ∧ Hid (RSys w2.heap.size wr r ws gs)) (fun v _ => 256 - (intOf v).toNat)
          case atStart => exact ⟨0, by omega, rfl, HB, HS, HR⟩
          case round =>
            clear HB HS HR
            obtain ⟨i, hi, rfl, HB, HS, HR⟩ := hrel
            by_cases hlt : i < 256
            · have C0 := Lib.hid (has_sys b ws gs _ HS.out.sys (i : Int) (by omega))
              have C1 := Lib.hid (fun W (h : RSys w2.heap.size W r ws gs) => hasR r ws gs W h (i : Int) (by omega))
              have C2 := Lib.hid (fun W (h : Sys W b ws gs) => least_sys b ws gs W h (i : Int) (by omega))
              have C3 := Lib.hid (fun W (h : RSys w2.heap.size W r ws gs) => leastR r ws gs W h (i : Int) (by omega))
              obtain ⟨c, hc⟩ : ∃ c, hasB ws gs (inS (i : Int)) = c := ⟨_, rfl⟩
              obtain ⟨d, hd⟩ : ∃ c, leastB ws gs (i : Int) = c := ⟨_, rfl⟩
              rw [hc] at C0 C1
              rw [hd] at C2 C3
              clear hc hd
              go_wp2_with fail
              refine C0.out.mono ?_
              rintro e wa ⟨rfl, hB⟩
              have HBa := Lib.hid (below_then HB.out HB.out.size hB)
              have HSa := Lib.hid (HS.out.below hB)
              have HRa := Lib.hid (HR.out.below hB)
              clear hB HB HS HR
              go_wp2_with fail
              refine (C1.out _ HRa.out).mono ?_
              rintro e wx ⟨rfl, rfl⟩
              by_cases i1 : i < 128
              · cases c <;> (
                  go_wp2_with fail
                  refine (C2.out _ HSa.out.sys).mono ?_
                  rintro e wb ⟨rfl, hB⟩
                  have HBb := Lib.hid (below_then HBa.out HBa.out.size hB)
                  have HSb := Lib.hid (HSa.out.below hB)
                  have HRb := Lib.hid (HRa.out.below hB)
                  clear hB HBa HSa HRa
                  go_wp2_with fail
                  refine (C3.out _ HRb.out).mono ?_
                  rintro e wx ⟨rfl, rfl⟩
                  cases d <;> (go_wp2; exact ⟨⟨i + 1, by omega, by go_num, HBb, HSb, HRb⟩, by simp [intOf]; omega⟩))
              · obtain ⟨m, hm⟩ : ∃ m, Int.tmod (i : Int) 16 = m := ⟨_, rfl⟩
                by_cases i2 : m = 3
                · subst i2
                  cases c <;> (
                    go_wp2_with fail
                    refine (C2.out _ HSa.out.sys).mono ?_
                    rintro e wb ⟨rfl, hB⟩
                    have HBb := Lib.hid (below_then HBa.out HBa.out.size hB)
                    have HSb := Lib.hid (HSa.out.below hB)
                    have HRb := Lib.hid (HRa.out.below hB)
                    clear hB HBa HSa HRa
                    go_wp2_with fail
                    refine (C3.out _ HRb.out).mono ?_
                    rintro e wx ⟨rfl, rfl⟩
                    cases d <;> (go_wp2; exact ⟨⟨i + 1, by omega, by go_num, HBb, HSb, HRb⟩, by simp [intOf]; omega⟩))
                · have i3 : (m == 3) = false := by rw [beq_eq_false_iff_ne]; exact i2
                  cases c <;> (go_wp2; exact ⟨⟨i + 1, by omega, by go_num, HBa, HSa, HRa⟩, by simp [intOf]; omega⟩)
            · obtain rfl : i = 256 := by omega
              go_wp2
              go_ret
              exact ⟨rfl, HB.out⟩
end Go.Proofs.Ytfkbknkmanphfaa.Q
