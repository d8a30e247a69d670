import Derived.Test.YtcilfjmiiodfgaaDoorQ1
namespace Go.Proofs.YtcilfjmiiodfgaaDoor.Q
open Go.RowKit Go.Shelf Go.Proofs.YtcilfjmiiodfgaaDoorW.PrintWords Go.Proofs.YtcilfjmiiodfgaaDoor.Pr
set_option linter.unusedVariables false
set_option linter.unusedSimpArgs false

set_option maxHeartbeats 8000000 in
set_option maxRecDepth 100000 in
theorem pathBack_calls (p b : ByteArray) (w : World) (hT : Tabs w) : Calls Tryd.prog 8 #[.string p, .string b] w fun e w' => e = .returned (.bool true) ∧ Below w.heap.size w w' := by
  have HT := Lib.hid hT
  clear hT
  by_cases h1 : (p.size : Int) ≥ 2147483632
  · have K1 := Lib.hid (long_is p w true (decide_eq_true h1))
    go_enter Tryd.func8, Tryd.ntmps8
    go_wp2_with fail
    refine (K1.out).mono ?_
    rintro e w1 ⟨rfl, hB⟩
    have HB1 := Lib.hid (hB)
    clear hB
    go_wp2
    go_ret
    exact ⟨rfl, HB1.out⟩
  have K1 := Lib.hid (long_is p w false (decide_eq_false h1))
  by_cases h2 : (b.size : Int) ≥ 2147483632
  · have K2 := Lib.hid (fun w => long_is b w true (decide_eq_true h2))
    go_enter Tryd.func8, Tryd.ntmps8
    go_wp2_with fail
    refine (K1.out).mono ?_
    rintro e w1 ⟨rfl, hB⟩
    have HB1 := Lib.hid (hB)
    clear hB
    go_wp2_with fail
    refine (K2.out w1).mono ?_
    rintro e w2 ⟨rfl, hB⟩
    have HB2 := Lib.hid (below_step HB1.out hB)
    clear hB
    go_wp2
    go_ret
    exact ⟨rfl, HB2.out⟩
  have K2 := Lib.hid (fun w => long_is b w false (decide_eq_false h2))
  have hz : (p ++ b).size = p.size + b.size := ByteArray.size_append
  by_cases h3 : ((p ++ b).size : Int) ≥ 2147483632
  · have K3 := Lib.hid (fun w => long_is (p ++ b) w true (decide_eq_true h3))
    clear h3 hz
    go_enter Tryd.func8, Tryd.ntmps8
    go_wp2_with fail
    refine (K1.out).mono ?_
    rintro e w1 ⟨rfl, hB⟩
    have HB1 := Lib.hid (hB)
    clear hB
    go_wp2_with fail
    refine (K2.out w1).mono ?_
    rintro e w2 ⟨rfl, hB⟩
    have HB2 := Lib.hid (below_step HB1.out hB)
    clear hB
    go_wp2_with fail
    refine (K3.out w2).mono ?_
    rintro e w3 ⟨rfl, hB⟩
    have HB3 := Lib.hid (below_step HB2.out hB)
    clear hB
    go_wp2
    go_ret
    exact ⟨rfl, HB3.out⟩
  have K3 := Lib.hid (fun w => long_is (p ++ b) w false (decide_eq_false h3))
  rw [hz] at h3
  clear hz
  have K4 := Lib.hid (fun w => lives_calls w)
  have K5 := Lib.hid (fun w => check_calls p w (by omega))
  have K6 := Lib.hid (fun w => parent_calls p w (by omega))
  have K7 := Lib.hid (fun w => base_calls p w (by omega))
  have K8 := Lib.hid (fun w => join_calls p b w (by omega) (by omega))
  have E0 : (⟨#[]⟩ : ByteArray).toList.isEmpty = true := by rw [Lib.toList_data]; rfl
  cases hi : isP p with
  | false =>
    obtain ⟨n1, n2⟩ := no_parent hi
    have n3 := checkP_no p hi
    rw [n3] at K5
    rw [n1] at K6
    rw [n2] at K7
    obtain ⟨x, hx⟩ : ∃ x, (checkP p).1 = x := ⟨_, rfl⟩
    rw [hx] at K5
    clear n1 n2 n3 hx hi
    simp only [empty] at K6 K7
    go_enter Tryd.func8, Tryd.ntmps8
    go_wp2_with fail
    refine (K1.out).mono ?_
    rintro e w1 ⟨rfl, hB⟩
    have HB1 := Lib.hid (hB)
    clear hB
    go_wp2_with fail
    refine (K2.out w1).mono ?_
    rintro e w2 ⟨rfl, hB⟩
    have HB2 := Lib.hid (below_step HB1.out hB)
    clear hB
    go_wp2_with fail
    refine (K3.out w2).mono ?_
    rintro e w3 ⟨rfl, hB⟩
    have HB3 := Lib.hid (below_step HB2.out hB)
    clear hB
    go_wp2_with fail
    refine (K4.out w3 (tabs_from HT.out HB3.out)).mono ?_
    rintro e w4 ⟨rfl, hB⟩
    have HB4 := Lib.hid (below_step HB3.out hB)
    clear hB
    go_wp2_with fail
    refine (K5.out w4 (tabs_from HT.out HB4.out)).mono ?_
    rintro e w5 ⟨rfl, hB⟩
    have HB5 := Lib.hid (below_step HB4.out hB)
    clear hB
    go_wp2_with fail
    refine (K6.out w5 (tabs_from HT.out HB5.out)).mono ?_
    rintro e w6 ⟨rfl, hB⟩
    have HB6 := Lib.hid (below_step HB5.out hB)
    clear hB
    go_wp2_with fail
    refine (K7.out w6 (tabs_from HT.out HB6.out)).mono ?_
    rintro e w7 ⟨rfl, hB⟩
    have HB7 := Lib.hid (below_step HB6.out hB)
    clear hB
    go_wp2
    go_ret
    exact ⟨by simp, HB7.out⟩
  | true =>
    have n3 := checkP_ok p hi
    rw [n3] at K5
    have J0 := join_cases p b hi
    have HI := Lib.hid hi
    clear n3
    by_cases hr : p.toList = [47]
    · have c1 : (p.toList != [47]) = false := by rw [bne_eq_false_iff_eq]; exact hr
      have c2 : (p.toList == [47]) = true := beq_iff_eq.mpr hr
      clear hi hr
      rcases J0 with hj | ⟨q, hj, hput⟩
      · rw [hj] at K8
        clear hj
        simp only [empty] at K8
        go_enter Tryd.func8, Tryd.ntmps8
        go_wp2_with fail
        refine (K1.out).mono ?_
        rintro e w1 ⟨rfl, hB⟩
        have HB1 := Lib.hid (hB)
        clear hB
        go_wp2_with fail
        refine (K2.out w1).mono ?_
        rintro e w2 ⟨rfl, hB⟩
        have HB2 := Lib.hid (below_step HB1.out hB)
        clear hB
        go_wp2_with fail
        refine (K3.out w2).mono ?_
        rintro e w3 ⟨rfl, hB⟩
        have HB3 := Lib.hid (below_step HB2.out hB)
        clear hB
        go_wp2_with fail
        refine (K4.out w3 (tabs_from HT.out HB3.out)).mono ?_
        rintro e w4 ⟨rfl, hB⟩
        have HB4 := Lib.hid (below_step HB3.out hB)
        clear hB
        go_wp2_with fail
        refine (K5.out w4 (tabs_from HT.out HB4.out)).mono ?_
        rintro e w5 ⟨rfl, hB⟩
        have HB5 := Lib.hid (below_step HB4.out hB)
        clear hB
        go_wp2_with fail
        refine (K8.out w5 (tabs_from HT.out HB5.out)).mono ?_
        rintro e w6 ⟨rfl, hB⟩
        have HB6 := Lib.hid (below_step HB5.out hB)
        clear hB
        go_wp2
        go_ret
        exact ⟨by simp, HB6.out⟩
      · rw [hj] at K8
        have hqz := isP_size hput.is
        have K11 := Lib.hid (fun w => check_calls q w (by omega))
        have K12 := Lib.hid (fun w => parent_calls q w (by omega))
        have K13 := Lib.hid (fun w => base_calls q w (by omega))
        have K14 := Lib.hid (fun w => below_calls q p w (by omega) (by omega))
        rw [checkP_ok q hput.is] at K11
        rw [hput.parent] at K12
        rw [hput.base] at K13
        rw [hput.below] at K14
        have e1 : (p.toList == p.toList) = true := by simp
        have e2 : (b.toList == b.toList) = true := by simp
        clear hj hput
        go_enter Tryd.func8, Tryd.ntmps8
        go_wp2_with fail
        refine (K1.out).mono ?_
        rintro e w1 ⟨rfl, hB⟩
        have HB1 := Lib.hid (hB)
        clear hB
        go_wp2_with fail
        refine (K2.out w1).mono ?_
        rintro e w2 ⟨rfl, hB⟩
        have HB2 := Lib.hid (below_step HB1.out hB)
        clear hB
        go_wp2_with fail
        refine (K3.out w2).mono ?_
        rintro e w3 ⟨rfl, hB⟩
        have HB3 := Lib.hid (below_step HB2.out hB)
        clear hB
        go_wp2_with fail
        refine (K4.out w3 (tabs_from HT.out HB3.out)).mono ?_
        rintro e w4 ⟨rfl, hB⟩
        have HB4 := Lib.hid (below_step HB3.out hB)
        clear hB
        go_wp2_with fail
        refine (K5.out w4 (tabs_from HT.out HB4.out)).mono ?_
        rintro e w5 ⟨rfl, hB⟩
        have HB5 := Lib.hid (below_step HB4.out hB)
        clear hB
        go_wp2_with fail
        refine (K8.out w5 (tabs_from HT.out HB5.out)).mono ?_
        rintro e w6 ⟨rfl, hB⟩
        have HB6 := Lib.hid (below_step HB5.out hB)
        clear hB
        go_wp2_with fail
        refine (K11.out w6 (tabs_from HT.out HB6.out)).mono ?_
        rintro e w7 ⟨rfl, hB⟩
        have HB7 := Lib.hid (below_step HB6.out hB)
        clear hB
        go_wp2_with fail
        refine (K12.out w7 (tabs_from HT.out HB7.out)).mono ?_
        rintro e w8 ⟨rfl, hB⟩
        have HB8 := Lib.hid (below_step HB7.out hB)
        clear hB
        go_wp2_with fail
        refine (K13.out w8 (tabs_from HT.out HB8.out)).mono ?_
        rintro e w9 ⟨rfl, hB⟩
        have HB9 := Lib.hid (below_step HB8.out hB)
        clear hB
        go_wp2_with fail
        refine (K14.out w9 (tabs_from HT.out HB9.out)).mono ?_
        rintro e w10 ⟨rfl, hB⟩
        have HB10 := Lib.hid (below_step HB9.out hB)
        clear hB
        go_wp2
        go_ret
        exact ⟨by simp, HB10.out⟩
    · have c1 : (p.toList != [47]) = true := bne_iff_ne.mpr hr
      have c2 : (p.toList == [47]) = false := beq_eq_false_iff_ne.mpr hr
      have hpz := isP_size (parent_stem hi hr).2
      have hbz : (baseP p).size ≤ 64 := by
        have := isP_size hi
        unfold baseP
        rw [if_pos hi, ByteArray.size_extract]; omega
      have K9 := Lib.hid (fun w => join_calls (parentP p) (baseP p) w (by omega) (by omega))
      rw [back_join hi hr] at K9
      have K10 := Lib.hid (fun w => below_calls p (parentP p) w (by omega) (by omega))
      rw [back_below hi hr] at K10
      have c3 : (p.toList != p.toList) = false := by simp
      obtain ⟨d, hd⟩ : ∃ d, parentP p = d := ⟨_, rfl⟩
      obtain ⟨bs, hbs⟩ : ∃ d, baseP p = d := ⟨_, rfl⟩
      rw [hd] at K6 K9 K10
      rw [hbs] at K7 K9
      clear hi hr hpz hbz hd hbs
      rcases J0 with hj | ⟨q, hj, hput⟩
      · rw [hj] at K8
        clear hj
        simp only [empty] at K8
        go_enter Tryd.func8, Tryd.ntmps8
        go_wp2_with fail
        refine (K1.out).mono ?_
        rintro e w1 ⟨rfl, hB⟩
        have HB1 := Lib.hid (hB)
        clear hB
        go_wp2_with fail
        refine (K2.out w1).mono ?_
        rintro e w2 ⟨rfl, hB⟩
        have HB2 := Lib.hid (below_step HB1.out hB)
        clear hB
        go_wp2_with fail
        refine (K3.out w2).mono ?_
        rintro e w3 ⟨rfl, hB⟩
        have HB3 := Lib.hid (below_step HB2.out hB)
        clear hB
        go_wp2_with fail
        refine (K4.out w3 (tabs_from HT.out HB3.out)).mono ?_
        rintro e w4 ⟨rfl, hB⟩
        have HB4 := Lib.hid (below_step HB3.out hB)
        clear hB
        go_wp2_with fail
        refine (K5.out w4 (tabs_from HT.out HB4.out)).mono ?_
        rintro e w5 ⟨rfl, hB⟩
        have HB5 := Lib.hid (below_step HB4.out hB)
        clear hB
        go_wp2_with fail
        refine (K6.out w5 (tabs_from HT.out HB5.out)).mono ?_
        rintro e w6 ⟨rfl, hB⟩
        have HB6 := Lib.hid (below_step HB5.out hB)
        clear hB
        go_wp2_with fail
        refine (K7.out w6 (tabs_from HT.out HB6.out)).mono ?_
        rintro e w7 ⟨rfl, hB⟩
        have HB7 := Lib.hid (below_step HB6.out hB)
        clear hB
        go_wp2_with fail
        refine (K9.out w7 (tabs_from HT.out HB7.out)).mono ?_
        rintro e w8 ⟨rfl, hB⟩
        have HB8 := Lib.hid (below_step HB7.out hB)
        clear hB
        go_wp2_with fail
        refine (K10.out w8 (tabs_from HT.out HB8.out)).mono ?_
        rintro e w9 ⟨rfl, hB⟩
        have HB9 := Lib.hid (below_step HB8.out hB)
        clear hB
        go_wp2_with fail
        refine (K8.out w9 (tabs_from HT.out HB9.out)).mono ?_
        rintro e w10 ⟨rfl, hB⟩
        have HB10 := Lib.hid (below_step HB9.out hB)
        clear hB
        go_wp2
        go_ret
        exact ⟨by simp, HB10.out⟩
      · rw [hj] at K8
        have hqz := isP_size hput.is
        have K11 := Lib.hid (fun w => check_calls q w (by omega))
        have K12 := Lib.hid (fun w => parent_calls q w (by omega))
        have K13 := Lib.hid (fun w => base_calls q w (by omega))
        have K14 := Lib.hid (fun w => below_calls q p w (by omega) (by omega))
        rw [checkP_ok q hput.is] at K11
        rw [hput.parent] at K12
        rw [hput.base] at K13
        rw [hput.below] at K14
        have e1 : (p.toList == p.toList) = true := by simp
        have e2 : (b.toList == b.toList) = true := by simp
        clear hj hput
        go_enter Tryd.func8, Tryd.ntmps8
        go_wp2_with fail
        refine (K1.out).mono ?_
        rintro e w1 ⟨rfl, hB⟩
        have HB1 := Lib.hid (hB)
        clear hB
        go_wp2_with fail
        refine (K2.out w1).mono ?_
        rintro e w2 ⟨rfl, hB⟩
        have HB2 := Lib.hid (below_step HB1.out hB)
        clear hB
        go_wp2_with fail
        refine (K3.out w2).mono ?_
        rintro e w3 ⟨rfl, hB⟩
        have HB3 := Lib.hid (below_step HB2.out hB)
        clear hB
        go_wp2_with fail
        refine (K4.out w3 (tabs_from HT.out HB3.out)).mono ?_
        rintro e w4 ⟨rfl, hB⟩
        have HB4 := Lib.hid (below_step HB3.out hB)
        clear hB
        go_wp2_with fail
        refine (K5.out w4 (tabs_from HT.out HB4.out)).mono ?_
        rintro e w5 ⟨rfl, hB⟩
        have HB5 := Lib.hid (below_step HB4.out hB)
        clear hB
        go_wp2_with fail
        refine (K6.out w5 (tabs_from HT.out HB5.out)).mono ?_
        rintro e w6 ⟨rfl, hB⟩
        have HB6 := Lib.hid (below_step HB5.out hB)
        clear hB
        go_wp2_with fail
        refine (K7.out w6 (tabs_from HT.out HB6.out)).mono ?_
        rintro e w7 ⟨rfl, hB⟩
        have HB7 := Lib.hid (below_step HB6.out hB)
        clear hB
        go_wp2_with fail
        refine (K9.out w7 (tabs_from HT.out HB7.out)).mono ?_
        rintro e w8 ⟨rfl, hB⟩
        have HB8 := Lib.hid (below_step HB7.out hB)
        clear hB
        go_wp2_with fail
        refine (K10.out w8 (tabs_from HT.out HB8.out)).mono ?_
        rintro e w9 ⟨rfl, hB⟩
        have HB9 := Lib.hid (below_step HB8.out hB)
        clear hB
        go_wp2_with fail
        refine (K8.out w9 (tabs_from HT.out HB9.out)).mono ?_
        rintro e w10 ⟨rfl, hB⟩
        have HB10 := Lib.hid (below_step HB9.out hB)
        clear hB
        go_wp2_with fail
        refine (K11.out w10 (tabs_from HT.out HB10.out)).mono ?_
        rintro e w11 ⟨rfl, hB⟩
        have HB11 := Lib.hid (below_step HB10.out hB)
        clear hB
        go_wp2_with fail
        refine (K12.out w11 (tabs_from HT.out HB11.out)).mono ?_
        rintro e w12 ⟨rfl, hB⟩
        have HB12 := Lib.hid (below_step HB11.out hB)
        clear hB
        go_wp2_with fail
        refine (K13.out w12 (tabs_from HT.out HB12.out)).mono ?_
        rintro e w13 ⟨rfl, hB⟩
        have HB13 := Lib.hid (below_step HB12.out hB)
        clear hB
        go_wp2_with fail
        refine (K14.out w13 (tabs_from HT.out HB13.out)).mono ?_
        rintro e w14 ⟨rfl, hB⟩
        have HB14 := Lib.hid (below_step HB13.out hB)
        clear hB
        go_wp2
        go_ret
        exact ⟨by simp, HB14.out⟩
end Go.Proofs.YtcilfjmiiodfgaaDoor.Q
