import Derived.Test.YtcilfjmiiodfgaaDoorO
namespace Go.Proofs.YtcilfjmiiodfgaaDoor.Q
open Go.RowKit Go.Shelf Go.Proofs.YtcilfjmiiodfgaaDoorW.PrintWords Go.Proofs.YtcilfjmiiodfgaaDoor.Pr
set_option linter.unusedVariables false
set_option linter.unusedSimpArgs false

theorem a_root : belowP aB rootB = true := by
  have h := refBelow_f aB rootB (by decide) (by decide) 72 (by decide)
  have h2 : lagoonref05_Below.f 72 aB rootB = some true := by kernel_rfl
  rw [h2] at h
  exact (Option.some.inj h).symm
set_option maxHeartbeats 4000000 in
theorem pathBelow_calls (p q : ByteArray) (w : World) (hT : Tabs w) : Calls Tryd.prog 4 #[.string p, .string q] w fun e w' => e = .returned (.bool true) ∧ Below w.heap.size w w' := by
  have HT := Lib.hid hT
  clear hT
  by_cases h1 : (p.size : Int) ≥ 2147483632
  · have K1 := Lib.hid (long_is p w true (decide_eq_true h1))
    go_enter Tryd.func4, Tryd.ntmps4
    go_wp2_with fail
    refine K1.out.mono ?_
    rintro e w1 ⟨rfl, hB⟩
    have HB := Lib.hid hB
    clear hB
    go_wp2
    go_ret
    exact ⟨rfl, HB.out⟩
  have K1 := Lib.hid (long_is p w false (decide_eq_false h1))
  by_cases h2 : (q.size : Int) ≥ 2147483632
  · have K2 := Lib.hid (fun w => long_is q w true (decide_eq_true h2))
    go_enter Tryd.func4, Tryd.ntmps4
    go_wp2_with fail
    refine K1.out.mono ?_
    rintro e w1 ⟨rfl, hB⟩
    have HB := Lib.hid hB
    clear hB
    go_wp2_with fail
    refine (K2.out w1).mono ?_
    rintro e w2 ⟨rfl, hB⟩
    have HB2 := Lib.hid (below_step HB.out hB)
    clear hB
    go_wp2
    go_ret
    exact ⟨rfl, HB2.out⟩
  have K2 := Lib.hid (fun w => long_is q w false (decide_eq_false h2))
  have K3 := Lib.hid (fun w => below_calls aB rootB w (by decide) (by decide))
  rw [a_root] at K3
  have K4 := Lib.hid (fun w => below_calls p q w (by omega) (by omega))
  have K5 := Lib.hid (fun w => below_calls q p w (by omega) (by omega))
  have K6 := Lib.hid (fun w => refBelow_calls p q w (by omega) (by omega))
  have K7 := Lib.hid (fun w => refBelow_calls q p w (by omega) (by omega))
  obtain ⟨x, hx⟩ : ∃ x, belowP p q = x := ⟨_, rfl⟩
  obtain ⟨y, hy⟩ : ∃ y, belowP q p = y := ⟨_, rfl⟩
  rw [hx] at K4 K6
  rw [hy] at K5 K7
  have e1 : (x == x) = true := by simp
  have e2 : (y == y) = true := by simp
  clear hx hy
  go_enter Tryd.func4, Tryd.ntmps4
  go_wp2_with fail
  refine K1.out.mono ?_
  rintro e w1 ⟨rfl, hB⟩
  have HB := Lib.hid hB
  clear hB
  go_wp2_with fail
  refine (K2.out w1).mono ?_
  rintro e w2 ⟨rfl, hB⟩
  have HB2 := Lib.hid (below_step HB.out hB)
  clear hB
  go_wp2_with fail
  refine (K3.out w2 (tabs_from HT.out HB2.out)).mono ?_
  rintro e w3 ⟨rfl, hB⟩
  have HB3 := Lib.hid (below_step HB2.out hB)
  clear hB
  go_wp2_with fail
  refine (K4.out w3 (tabs_from HT.out HB3.out)).mono ?_
  rintro e w4 ⟨rfl, hB⟩
  have HB4 := Lib.hid (below_step HB3.out hB)
  clear hB
  go_wp2_with fail
  refine (K5.out w4 (tabs_from HT.out HB4.out)).mono ?_
  rintro e w5 ⟨rfl, hB⟩
  have HB5 := Lib.hid (below_step HB4.out hB)
  clear hB
  go_wp2_with fail
  refine (K6.out w5).mono ?_
  rintro e w6 ⟨rfl, hB⟩
  have HB6 := Lib.hid (below_step HB5.out hB)
  clear hB
  go_wp2_with fail
  refine (K7.out w6).mono ?_
  rintro e w7 ⟨rfl, hB⟩
  have HB7 := Lib.hid (below_step HB6.out hB)
  clear hB
  go_wp2
  go_ret
  exact ⟨by simp, HB7.out⟩
end Go.Proofs.YtcilfjmiiodfgaaDoor.Q
