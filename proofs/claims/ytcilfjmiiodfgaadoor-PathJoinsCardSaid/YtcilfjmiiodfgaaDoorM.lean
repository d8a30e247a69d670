import Derived.Test.YtcilfjmiiodfgaaDoorK
namespace Go.Proofs.YtcilfjmiiodfgaaDoor.Q
open Go.RowKit Go.Shelf Go.Proofs.YtcilfjmiiodfgaaDoorW.PrintWords Go.Proofs.YtcilfjmiiodfgaaDoor.Pr
set_option linter.unusedVariables false
set_option linter.unusedSimpArgs false

set_option maxHeartbeats 4000000 in
theorem pathJoins_calls (d b : ByteArray) (w : World) (hT : Tabs w) : Calls Tryd.prog 5 #[.string d, .string b] w fun e w' => e = .returned (.bool true) ∧ Below w.heap.size w w' := by
  have HT := Lib.hid hT
  clear hT
  by_cases h1 : (d.size : Int) ≥ 2147483632
  · have K1 := Lib.hid (long_is d w true (decide_eq_true h1))
    go_enter Tryd.func5, Tryd.ntmps5
    go_wp2_with fail
    refine K1.out.mono ?_
    rintro e w1 ⟨rfl, hB⟩
    have HB := Lib.hid hB
    clear hB
    go_wp2
    go_ret
    exact ⟨rfl, HB.out⟩
  have K1 := Lib.hid (long_is d w false (decide_eq_false h1))
  by_cases h2 : (b.size : Int) ≥ 2147483632
  · have K2 := Lib.hid (fun w => long_is b w true (decide_eq_true h2))
    go_enter Tryd.func5, Tryd.ntmps5
    go_wp2_with fail
    refine K1.out.mono ?_
    rintro e w1 ⟨rfl, hB⟩
    have HB := Lib.hid hB
    clear hB
    go_wp2_with fail
    refine (K2.out w1).mono ?_
    rintro e w2 ⟨rfl, hB⟩
    have HB2 := Lib.hid (below_step HB.out hB)
    clear hB
    go_wp2
    go_ret
    exact ⟨rfl, HB2.out⟩
  have K2 := Lib.hid (fun w => long_is b w false (decide_eq_false h2))
  have hz : (d ++ b).size = d.size + b.size := ByteArray.size_append
  by_cases h3 : ((d ++ b).size : Int) ≥ 2147483632
  · have K3 := Lib.hid (fun w => long_is (d ++ b) w true (decide_eq_true h3))
    clear h3 hz
    go_enter Tryd.func5, Tryd.ntmps5
    go_wp2_with fail
    refine K1.out.mono ?_
    rintro e w1 ⟨rfl, hB⟩
    have HB := Lib.hid hB
    clear hB
    go_wp2_with fail
    refine (K2.out w1).mono ?_
    rintro e w2 ⟨rfl, hB⟩
    have HB2 := Lib.hid (below_step HB.out hB)
    clear hB
    go_wp2_with fail
    refine (K3.out w2).mono ?_
    rintro e w3 ⟨rfl, hB⟩
    have HB3 := Lib.hid (below_step HB2.out hB)
    clear hB
    go_wp2
    go_ret
    exact ⟨rfl, HB3.out⟩
  have K3 := Lib.hid (fun w => long_is (d ++ b) w false (decide_eq_false h3))
  rw [hz] at h3
  clear hz
  have K4 := Lib.hid (fun w => lives_calls w)
  have K5 := Lib.hid (fun w => join_calls d b w (by omega) (by omega))
  have K6 := Lib.hid (fun w => refJoin_calls d b w (by omega))
  obtain ⟨x, hx⟩ : ∃ x, (joinP d b).1 = x := ⟨_, rfl⟩
  obtain ⟨y, hy⟩ : ∃ y, (joinP d b).2 = y := ⟨_, rfl⟩
  rw [hx, hy] at K5 K6
  have e1 : (x.toList == x.toList) = true := by simp
  have e2 : ((y : Int) == (y : Int)) = true := by simp
  clear hx hy
  go_enter Tryd.func5, Tryd.ntmps5
  go_wp2_with fail
  refine K1.out.mono ?_
  rintro e w1 ⟨rfl, hB⟩
  have HB := Lib.hid hB
  clear hB
  go_wp2_with fail
  refine (K2.out w1).mono ?_
  rintro e w2 ⟨rfl, hB⟩
  have HB2 := Lib.hid (below_step HB.out hB)
  clear hB
  go_wp2_with fail
  refine (K3.out w2).mono ?_
  rintro e w3 ⟨rfl, hB⟩
  have HB3 := Lib.hid (below_step HB2.out hB)
  clear hB
  go_wp2_with fail
  refine (K4.out w3 (tabs_from HT.out HB3.out)).mono ?_
  rintro e w4 ⟨rfl, hB⟩
  have HB4 := Lib.hid (below_step HB3.out hB)
  clear hB
  go_wp2_with fail
  refine (K5.out w4 (tabs_from HT.out HB4.out)).mono ?_
  rintro e w5 ⟨rfl, hB⟩
  have HB5 := Lib.hid (below_step HB4.out hB)
  clear hB
  go_wp2_with fail
  refine (K6.out w5).mono ?_
  rintro e w6 ⟨rfl, hB⟩
  have HB6 := Lib.hid (below_step HB5.out hB)
  clear hB
  go_wp2
  go_ret
  exact ⟨by simp, HB6.out⟩
end Go.Proofs.YtcilfjmiiodfgaaDoor.Q
