import Derived.Test.YtkmpbnicofiehaaS
namespace Go.Proofs.Ytkmpbnicofiehaa.Q
open Go.RowKit Go.Proofs.YtkmpbnicofiehaaW.PrintWords Go.Deep Go.Maps Go.WideShapes
set_option linter.unusedVariables false
set_option linter.unusedSimpArgs false
attribute [local go_sem] Oper.semAt_some

set_option maxRecDepth 100000 in
set_option maxHeartbeats 16000000 in
/-- up to an Add that is refused -/
theorem ends_bad (span ahead id t : Int) (A : Option Addr) (ca : Nat) (os : List (Int × Int)) (w : World) (hA : RdO w A os) (h1 : 1 ≤ span) (h2 : span ≤ 1000) (hbad : id < 1 ∨ t < 1 ∨ 1000 < t) :
    Calls Try.prog 3 #[.int .i64 span, .int .i64 ahead, .int .i64 id, .int .i32 t, .slice A os.length ca] w fun e w' => e = .returned (.bool true) ∧ Below w.heap.size w w' := by
  have K1 := Lib.hid (works_calls w)
  obtain ⟨a, ha⟩ : ∃ a, decide (id < 1) = a := ⟨_, rfl⟩
  obtain ⟨a2, ha2⟩ : ∃ a, decide (t < 1) = a := ⟨_, rfl⟩
  obtain ⟨a3, ha3⟩ : ∃ a, decide (1000 < t) = a := ⟨_, rfl⟩
  have HX0 : Hid ((a || (a2 || a3)) = true) := Lib.hid (by subst ha ha2 ha3; simpa using hbad)
  have HH0 := Lib.hid hbad
  clear hbad
  have KF := Lib.hid (few_calls ahead)
  obtain ⟨F, hF⟩ : ∃ F, (if ahead < 1 then 1 else if 40 < ahead then 40 else ahead) = F := ⟨_, rfl⟩
  have hF01 := few_le ahead
  rw [hF] at KF hF01
  obtain ⟨hF0, hF1⟩ := hF01
  have HA := Lib.hid hA
  obtain ⟨L, hL⟩ : ∃ L, os.length = L := ⟨_, rfl⟩
  have hl := hA.1
  rw [hL] at hl
  have HL := Lib.hid hL
  rw [hL]
  clear hA hL hF
  go_enter Try.func3, Try.ntmps3
  go_wp2_with fail
  refine K1.out.mono ?_
  rintro e w1 ⟨rfl, hB⟩
  have HB1 := Lib.hid hB
  clear hB
  go_wp2_with fail
  refine (new_calls span w1 h1 h2).mono ?_
  rintro e w2 ⟨c, b, s, rfl, hC, hB, hb, hc⟩
  have HB2 := Lib.hid (below_step HB1.out hB)
  have hcb : w.heap.size ≤ c ∧ w.heap.size ≤ b := by have := HB1.out.size; omega
  have HC := Lib.hid (show Cl c b s span ((0 : Nat) : Int) 0 w w2 from ⟨⟨_, 0, Nat.le_refl _, isMap_empty, hC⟩, HB2.out, hcb, ⟨h1, h2⟩⟩)
  clear hC hB hb hc hcb
  go_wp2_with fail
  go_loopw [14] (fun vi wr => ∃ k : Nat, (k : Int) ≤ F ∧ vi = .int .i64 k ∧ Hid (Cl c b s span k 0 w wr)) (fun vi _ => 40 - (intOf vi).toNat)
  case atStart => exact ⟨0, by omega, rfl, HC⟩
  case round =>
    obtain ⟨k, hk, rfl, HI⟩ := hrel
    by_cases hlt : (k : Int) < F
    · have q1 : decide ((k : Int) < F) = true := decide_eq_true hlt
      have KT := Lib.hid (cl_tick HI.out (by omega) (by omega))
      go_wp2_with fail
      refine (KF.out wr).mono ?_
      rintro e w5 ⟨rfl, rfl⟩
      go_wp2_with fail
      refine KT.out.mono ?_
      rintro e w6 ⟨⟨v6, rfl⟩, hV⟩
      have HV := Lib.hid (show Cl c b s span ((k + 1 : Nat) : Int) 0 w w6 by rw [show ((k + 1 : Nat) : Int) = (k : Int) + 1 by omega]; exact hV)
      clear hV
      go_wp2
      exact ⟨⟨k + 1, by omega, by go_num, HV⟩, by simp [intOf]; omega⟩
    · have q1 : decide ((k : Int) < F) = false := decide_eq_false hlt
      go_wp2_with fail
      refine (KF.out wr).mono ?_
      rintro e w5 ⟨rfl, rfl⟩
      go_wp2_with fail
      obtain ⟨N, hN, hN0, hN1⟩ : ∃ N : Int, (k : Int) = N ∧ 0 ≤ N ∧ N ≤ 40 := ⟨_, rfl, by omega, by omega⟩
      rw [hN] at HI
      clear hN
      go_loopw [15] (fun vi wq => ∃ j : Nat, j ≤ L ∧ j ≤ 30 ∧ vi = .int .i64 j ∧ Hid (Cl c b s span N j w wq)) (fun vi _ => L - (intOf vi).toNat)
      case atStart => exact ⟨0, by omega, by omega, rfl, HI⟩
      case round =>
        obtain ⟨j, hj, hj30, rfl, HJ⟩ := hrel
        by_cases hlt1 : j < L
        · have r1 : decide (j < L) = true := decide_eq_true hlt1
          by_cases hlt2 : (j : Int) < 30
          · have r2 : decide ((j : Int) < 30) = true := decide_eq_true hlt2
            obtain ⟨bo, oo, ha, hcell⟩ := HA.out.2 (by have := HL.out; omega)
            subst ha
            have c1 := hcell j (by have := HL.out; omega)
            obtain ⟨x, hx⟩ : ∃ x, os.getD j (0, 0) = x := ⟨_, rfl⟩
            rw [hx] at c1
            obtain ⟨xi, xt⟩ := x
            obtain ⟨cw, c2, c3⟩ := c1
            have c2 := pw_cell_below HJ.out.below c2
            have c3 := pw_cell_below HJ.out.below c3
            clear hcell hx
            by_cases hxe : xi = id
            · have r3 : (xi != id) = false := by rw [bne_eq_false_iff_eq]; exact hxe
              have HX := Lib.hid hxe
              clear hxe
              go_wp2
              exact ⟨⟨j + 1, by omega, by omega, by go_num, Lib.hid ⟨by obtain ⟨D, m, hm, r⟩ := HJ.out.clk; exact ⟨D, m, by omega, r⟩, HJ.out.below, HJ.out.cb, HJ.out.span⟩⟩, by simp [intOf]; omega⟩
            · have r3 : (xi != id) = true := bne_iff_ne.2 hxe
              have KA := Lib.hid (fun wd (hB : Below wr.heap.size wr wd) => cl_add xi xt (show Cl c b s span N j w wd from ⟨by obtain ⟨D, m, hm, hM, hC⟩ := HJ.out.clk; exact ⟨D, m, hm, hM, hC.below hB⟩, below_step HJ.out.below hB, HJ.out.cb, HJ.out.span⟩) hN0 (by omega) (by omega) cw)
              clear hxe
              go_wp2_with fail
              go_still_tail 11, (by kernel_rfl)
              change wpList _ _ _ _ _ (World.drew wr)
              clear c2 c3
              go_wp2_with fail
              refine (KA.out _ (Below.refl _ wr).drew).mono ?_
              rintro e w6 ⟨⟨r6, rfl⟩, hV⟩
              have HV := Lib.hid hV
              clear hV
              go_wp2
              exact ⟨⟨j + 1, by omega, by omega, by go_num, HV⟩, by simp [intOf]; omega⟩
          · have r2 : decide ((j : Int) < 30) = false := decide_eq_false hlt2
            clear hj
            have KB := Lib.hid (cl_bad id t HJ.out HH0.out)
            go_wp2_with fail
            refine KB.out.mono ?_
            rintro e w5 ⟨rfl, rfl⟩
            cases a
            · cases a2
              · cases a3
                · exact absurd HX0.out (by simp)
                · go_wp2
                  go_ret
                  exact ⟨rfl, HJ.out.below⟩
              · go_wp2
                go_ret
                exact ⟨rfl, HJ.out.below⟩
            · go_wp2
              go_ret
              exact ⟨rfl, HJ.out.below⟩
        · have r1 : decide (j < L) = false := decide_eq_false hlt1
          clear hj
          have KB := Lib.hid (cl_bad id t HJ.out HH0.out)
          go_wp2_with fail
          refine KB.out.mono ?_
          rintro e w5 ⟨rfl, rfl⟩
          cases a
          · cases a2
            · cases a3
              · exact absurd HX0.out (by simp)
              · go_wp2
                go_ret
                exact ⟨rfl, HJ.out.below⟩
            · go_wp2
              go_ret
              exact ⟨rfl, HJ.out.below⟩
          · go_wp2
            go_ret
            exact ⟨rfl, HJ.out.below⟩
set_option maxRecDepth 100000 in
set_option maxHeartbeats 4000000 in
theorem ends_span (span ahead id t : Int) (v : Value) (w : World) (h : span < 1 ∨ 1000 < span) :
    Calls Try.prog 3 #[.int .i64 span, .int .i64 ahead, .int .i64 id, .int .i32 t, v] w fun e w' => e = .returned (.bool true) ∧ Below w.heap.size w w' := by
  have K1 := Lib.hid (works_calls w)
  have K2 := Lib.hid (fun w => new_bad span w h)
  rcases h with h | h
  · have q1 : decide (span < 1) = true := decide_eq_true h
    go_enter Try.func3, Try.ntmps3
    go_wp2_with fail
    refine K1.out.mono ?_
    rintro e w1 ⟨rfl, hB⟩
    have HB1 := Lib.hid hB
    clear hB
    go_wp2_with fail
    refine (K2.out w1).mono ?_
    rintro e w2 ⟨rfl, hB⟩
    have HB2 := Lib.hid (below_step HB1.out hB)
    clear hB
    go_wp2
    go_ret
    exact ⟨rfl, HB2.out⟩
  · have q1 : decide (span < 1) = false := decide_eq_false (by omega)
    have q2 : decide (1000 < span) = true := decide_eq_true h
    go_enter Try.func3, Try.ntmps3
    go_wp2_with fail
    refine K1.out.mono ?_
    rintro e w1 ⟨rfl, hB⟩
    have HB1 := Lib.hid hB
    clear hB
    go_wp2_with fail
    refine (K2.out w1).mono ?_
    rintro e w2 ⟨rfl, hB⟩
    have HB2 := Lib.hid (below_step HB1.out hB)
    clear hB
    go_wp2
    go_ret
    exact ⟨rfl, HB2.out⟩
theorem sessionEnds_calls (span ahead id t : Int) (A : Option Addr) (ca : Nat) (os : List (Int × Int)) (w : World) (hA : RdO w A os) (hi0 : (Lit.int .i64 id).wf = true) :
    Calls Try.prog 3 #[.int .i64 span, .int .i64 ahead, .int .i64 id, .int .i32 t, .slice A os.length ca] w fun e w' => e = .returned (.bool true) ∧ Below w.heap.size w w' := by
  by_cases h1 : span < 1 ∨ 1000 < span
  · exact ends_span span ahead id t _ w h1
  · by_cases h2 : id < 1 ∨ t < 1 ∨ 1000 < t
    · exact ends_bad span ahead id t A ca os w hA (by omega) (by omega) h2
    · exact ends_yes span ahead id t A ca os w hA (by omega) (by omega) (by omega) hi0 (by omega) (by omega)
end Go.Proofs.Ytkmpbnicofiehaa.Q
