import Derived.Test.YtbcijdgpaglbnaaB
import Derived.Lib.QuietBelow
namespace Go.Proofs.Ytbcijdgpaglbnaa.Q
open Go.RowKit Go.Proofs.YtbcijdgpaglbnaaW.PrintWords Go.Deep Go.Sort
set_option linter.unusedVariables false
set_option linter.unusedSimpArgs false

/-! THE FRAME WITH WHICH BYTES BEGIN -/
def bodyOf (L : List Nat) (n : Nat) : List Nat := (L.drop 8).take n
def headN (L : List Nat) : Nat := numOf (L.getD 0 0) (L.getD 1 0) (L.getD 2 0) (L.getD 3 0)
def sumOk (L : List Nat) (n : Nat) : Bool := eq4 (fun j => (L.getD (4 + j) 0 : Nat)) (fun j => (byteOf (sumB (bodyOf L n)) j : Nat))
/-- the length of the body of the first whole frame -/
def firstB (L : List Nat) : Option Nat :=
  if 8 < L.length ∧ 1 ≤ headN L ∧ headN L ≤ 1048576 ∧ 9 + headN L ≤ L.length ∧ L.getD (8 + headN L) 0 = 66 ∧ sumOk L (headN L) = true then some (headN L) else none
def firstV (b o c : Nat) : Option Nat → Value
  | none => .slice none 0 0
  | some n => .slice (some ⟨b, o + 8, none⟩) n (c - 8)
theorem firstB_some {L : List Nat} {n : Nat} (h : firstB L = some n) : 8 < L.length ∧ 1 ≤ n ∧ n ≤ 1048576 ∧ 9 + n ≤ L.length ∧ n = headN L := by
  unfold firstB at h
  split at h
  · rename_i hc
    have := Option.some.inj h
    subst this
    exact ⟨hc.1, hc.2.1, hc.2.2.1, hc.2.2.2.1, rfl⟩
  · cases h
theorem bodyOf_length {L : List Nat} {n : Nat} (h : 9 + n ≤ L.length) : (bodyOf L n).length = n := by simp [bodyOf]; omega
theorem bodyOf_getD (L : List Nat) (n i : Nat) (hi : i < n) : (bodyOf L n).getD i 0 = L.getD (8 + i) 0 := by
  simp [bodyOf, List.getD_eq_getElem?_getD, List.getElem?_take, hi, List.getElem?_drop]
theorem body_rdb {w : World} {b o : Nat} {L : List Nat} {n : Nat} (hc : ∀ i, i < L.length → w.cell? ⟨b, o + i, none⟩ = some (.int .u8 (L.getD i 0))) (h : 9 + n ≤ L.length) (hl : L.length ≤ 1099511627776) : RdB w (some ⟨b, o + 8, none⟩) (bodyOf L n) :=
  ⟨by rw [bodyOf_length h]; omega, fun _ => ⟨b, o + 8, rfl, fun i hi => by
    rw [bodyOf_length h] at hi
    rw [bodyOf_getD L n i hi, Nat.add_assoc]
    exact hc (8 + i) (by omega)⟩⟩
theorem first_short (A : Option Addr) (c : Nat) (L : List Nat) (w : World) (h : L.length ≤ 8) :
    Calls Try.prog 18 #[.slice A L.length c] w fun e w' => e = .returned (.slice none 0 0) ∧ w = w' := by
  go_enter Try.func18, Try.ntmps18
  go_wp2
  go_ret
  exact ⟨rfl, rfl⟩
set_option maxRecDepth 10000 in
set_option maxHeartbeats 4000000 in
theorem first_long (b o c : Nat) (L : List Nat) (w : World) (hcell : ∀ i, i < L.length → w.cell? ⟨b, o + i, none⟩ = some (.int .u8 (L.getD i 0))) (hb : Bytes L) (hc : L.length ≤ c) (hl : L.length ≤ 1099511627776) (h8 : 8 < L.length) :
    Calls Try.prog 18 #[.slice (some ⟨b, o, none⟩) L.length c] w fun e w' => e = .returned (firstV b o c (firstB L)) ∧ Below w.heap.size w w' := by
  have HC := Lib.hid hcell
  have HB := Lib.hid hb
  have x0 := hcell 0 (by omega)
  have x1 := hcell 1 (by omega)
  have x2 := hcell 2 (by omega)
  have x3 := hcell 3 (by omega)
  rw [Nat.add_zero] at x0
  have KN := Lib.hid (number_calls (L.getD 0 0) (L.getD 1 0) (L.getD 2 0) (L.getD 3 0) w (hb 0) (hb 1) (hb 2) (hb 3))
  have hat : ∀ W, (Instr.arrayAt 46 (.slice (some ⟨b, o, none⟩) 4 c)).run Try.prog W = .ok (.pointer (some ⟨b, o, none⟩)) W := fun W => run_arrayAt W 46 _ 4 _ 4 c Try.underlying46 (by omega)
  have hN : Hid (numOf (L.getD 0 0) (L.getD 1 0) (L.getD 2 0) (L.getD 3 0) = headN L) := Lib.hid rfl
  obtain ⟨a0, e0⟩ : ∃ x, L.getD 0 0 = x := ⟨_, rfl⟩
  obtain ⟨a1, e1⟩ : ∃ x, L.getD 1 0 = x := ⟨_, rfl⟩
  obtain ⟨a2, e2⟩ : ∃ x, L.getD 2 0 = x := ⟨_, rfl⟩
  obtain ⟨a3, e3⟩ : ∃ x, L.getD 3 0 = x := ⟨_, rfl⟩
  rw [e0] at x0 KN hN
  rw [e1] at x1 KN hN
  rw [e2] at x2 KN hN
  rw [e3] at x3 KN hN
  rw [hN.out] at KN
  clear e0 e1 e2 e3 hcell hb hN
  have NO : Hid (¬ (1 ≤ headN L ∧ headN L ≤ 1048576 ∧ 9 + headN L ≤ L.length ∧ L.getD (8 + headN L) 0 = 66 ∧ sumOk L (headN L) = true) → firstB L = none) := Lib.hid (fun h => by unfold firstB; rw [if_neg (fun x => h x.2)])
  have YES : Hid ((1 ≤ headN L ∧ headN L ≤ 1048576 ∧ 9 + headN L ≤ L.length ∧ L.getD (8 + headN L) 0 = 66 ∧ sumOk L (headN L) = true) → firstB L = some (headN L)) := Lib.hid (fun h => by unfold firstB; rw [if_pos ⟨h8, h⟩])
  obtain ⟨n, hn⟩ : ∃ n, headN L = n := ⟨_, rfl⟩
  rw [hn] at KN NO YES
  clear hn
  go_enter Try.func18, Try.ntmps18
  go_wp2_with fail
  refine KN.out.mono ?_
  rintro e w1 ⟨rfl, hB⟩
  have HB1 := Lib.hid hB
  have y4 := fun h => pw_cell_below hB (HC.out 4 h)
  have y5 := fun h => pw_cell_below hB (HC.out 5 h)
  have y6 := fun h => pw_cell_below hB (HC.out 6 h)
  have y7 := fun h => pw_cell_below hB (HC.out 7 h)
  have HCell := Lib.hid (fun i hi => pw_cell_below hB (HC.out i hi))
  clear x0 x1 x2 x3 KN hB
  have x4 := y4 (by omega)
  have x5 := y5 (by omega)
  have x6 := y6 (by omega)
  have x7 := y7 (by omega)
  clear y4 y5 y6 y7
  by_cases c1 : 1 ≤ n
  · by_cases c2 : n ≤ 1048576
    · by_cases c3 : 9 + n ≤ L.length
      · have xb := HCell.out (8 + n) (by omega)
        obtain ⟨y, hy⟩ : ∃ y, L.getD (8 + n) 0 = y := ⟨_, rfl⟩
        rw [hy] at xb NO YES
        clear hy
        by_cases c4 : y = 66
        · subst c4
          have hat2 : ∀ W, (Instr.arrayAt 46 (.slice (some ⟨b, o + 4, none⟩) 4 (c - 4))).run Try.prog W = .ok (.pointer (some ⟨b, o + 4, none⟩)) W := fun W => run_arrayAt W 46 _ 4 _ 4 _ Try.underlying46 (by omega)
          have hbl := bodyOf_length c3
          have hbody := body_rdb HCell.out c3 hl
          have hbb : Bytes (bodyOf L n) := (HB.out.drop 8).take n
          have c21 : ∀ d os, Calls Try.prog 21 #[.slice (some ⟨b, o + 8, none⟩) n (c - 8)] (grow (redrawn w1 d) os) fun e w'' => e = .returned (.int .u32 (sumB (bodyOf L n) : Nat)) ∧ ∃ p : Regrown, w'' = grow (redrawn w1 p.d) p.os := fun d os => Calls.regrown_of (by
            have := sum_calls (some ⟨b, o + 8, none⟩) (c - 8) (bodyOf L n) (grow (redrawn w1 d) os) (hbody.below (below_regrown w1 d os)) hbb
            rw [hbl] at this
            exact this.mono (fun e w' h => ⟨h.1, by rw [← h.2]; exact Below.refl _ _⟩))
          have c20 : ∀ d os, Calls Try.prog 20 #[.int .u32 (sumB (bodyOf L n) : Nat)] (grow (redrawn w1 d) os) fun e w'' => e = .returned (.agg (fourV (sumB (bodyOf L n))).toArray) ∧ ∃ p : Regrown, w'' = grow (redrawn w1 p.d) p.os := fun d os => Calls.regrown_of (four_calls _ _ (sumB_lt _))
          have heq : ∀ W : World, (Op.equalIn 10000 46 (.agg #[.int .u8 (L.getD 4 0 : Nat), .int .u8 (L.getD 5 0 : Nat), .int .u8 (L.getD 6 0 : Nat), .int .u8 (L.getD 7 0 : Nat)]) (.agg (fourV (sumB (bodyOf L n))).toArray)).run Try.prog W = .ok (sumOk L n) W := fun W => run_equalIn_tab4 9998 (fun j => (L.getD (4 + j) 0 : Nat)) (fun j => (byteOf (sumB (bodyOf L n)) j : Nat)) W
          obtain ⟨F4, hF4⟩ : ∃ F, (fourV (sumB (bodyOf L n))).toArray = F := ⟨_, rfl⟩
          obtain ⟨S, hS⟩ : ∃ S, sumB (bodyOf L n) = S := ⟨_, rfl⟩
          rw [hF4] at c20 heq
          rw [hS] at c20 c21
          obtain ⟨b4, e4⟩ : ∃ x, L.getD 4 0 = x := ⟨_, rfl⟩
          obtain ⟨b5, e5⟩ : ∃ x, L.getD 5 0 = x := ⟨_, rfl⟩
          obtain ⟨b6, e6⟩ : ∃ x, L.getD 6 0 = x := ⟨_, rfl⟩
          obtain ⟨b7, e7⟩ : ∃ x, L.getD 7 0 = x := ⟨_, rfl⟩
          rw [e4] at x4 heq
          rw [e5] at x5 heq
          rw [e6] at x6 heq
          rw [e7] at x7 heq
          obtain ⟨q, hq⟩ : ∃ q, sumOk L n = q := ⟨_, rfl⟩
          rw [hq] at heq NO YES
          clear hF4 hS e4 e5 e6 e7 hq hbl hbody hbb
          have k4 := cell_regrown x4
          have k5 := cell_regrown x5
          have k6 := cell_regrown x6
          have k7 := cell_regrown x7
          go_wp2_with fail
          rw [show 8 + n - 8 = n by omega]
          refine wp_region_quiet_below (by kernel_rfl) (by kernel_rfl) ?_
          repeat (go_big_quiet_step (first | exact c21 _ _ | exact c20 _ _))
          refine wpQuiet_nil ?_
          intro _ hw'
          obtain ⟨⟨dq, osq⟩, hw''⟩ := hw'
          subst hw''
          have HBel := Lib.hid (below_then HB1.out HB1.out.size (below_regrown w1 dq osq))
          generalize grow (redrawn w1 dq) osq = W4 at *
          clear k4 k5 k6 k7 c20 c21 heq
          cases q with
          | true =>
            go_wp2
            go_ret
            exact ⟨by rw [YES.out (by refine ⟨c1, c2, c3, ?_, ?_⟩ <;> simp)]; rfl, HBel.out⟩
          | false =>
            go_wp2
            go_ret
            exact ⟨by rw [NO.out (fun h => by simpa using h.2.2.2.2)]; rfl, HBel.out⟩
        · have c4' : ((y : Int) != 66) = true := by rw [bne_iff_ne]; omega
          go_wp2
          go_ret
          exact ⟨by rw [NO.out (fun h => c4 h.2.2.2.1)]; rfl, HB1.out⟩
      · go_wp2
        go_ret
        exact ⟨by rw [NO.out (fun h => c3 h.2.2.1)]; rfl, HB1.out⟩
    · go_wp2
      go_ret
      exact ⟨by rw [NO.out (fun h => c2 h.2.1)]; rfl, HB1.out⟩
  · go_wp2
    go_ret
    exact ⟨by rw [NO.out (fun h => c1 h.1)]; rfl, HB1.out⟩
end Go.Proofs.Ytbcijdgpaglbnaa.Q
