import Derived.Test.YtgjgafibipepeaaDoorA
namespace Go.Proofs.YtgjgafibipepeaaDoor.Q
open Go.RowKit Go.Proofs.YtgjgafibipepeaaDoorW.PrintWords Go.Deep Go.Maps Go.WideShapes Go.Lib
set_option linter.unusedVariables false
set_option linter.unusedSimpArgs false
attribute [local go_sem] Oper.semAt_some

/-! A NUMBER -/
theorem mk_toList (l : List UInt8) : (⟨l.toArray⟩ : ByteArray).toList = l := by rw [Lib.toList_data]
theorem number_yes (s : ByteArray) (most k : Nat) (w : World) (hs : s.size ≤ 281474976710656) (hm : most < 1000) (hE : Env w) (h : numB most s.data.toList = some k) :
    Calls Tryd.prog 56 #[.string s, .int .i64 most] w fun e w' => e = .returned (.tuple #[.int .i64 k, .bool true]) ∧ Below w.heap.size w w' := by
  obtain ⟨h1, h2, h3⟩ := numB_ok hm h
  have K1 := Lib.hid (Tryd.strconv_Atoi_ok s (by omega) (k : Int) h1 w)
  have HE := Lib.hid hE
  have q1 : (0 : Int) ≤ k := Int.natCast_nonneg _
  have q2 : decide ((0 : Int) ≤ (k : Int)) = true := decide_eq_true q1
  have q3 : decide (k ≤ most) = true := decide_eq_true h3
  have q4 : (Lib.itoa (k : Int) == s.toList) = true := by rw [beq_iff_eq, Lib.toList_data]; exact h2
  have HK := Lib.hid h2
  clear h h1 h2 hE
  go_enter Tryd.func56, Tryd.ntmps56
  go_wp2_with fail
  refine K1.out.mono ?_
  rintro e w1 ⟨rfl, hw⟩
  have HB1 := Lib.hid (atoi_below hw)
  have K2 := Lib.hid (itoa_calls k w1 q1 (by omega) (HE.out.below HB1.out))
  clear hw
  go_wp2_with fail
  refine K2.out.mono ?_
  rintro e w2 ⟨rfl, hB⟩
  have HB2 := Lib.hid (below_step HB1.out hB)
  clear hB
  go_wp2
  go_ret2
  exact ⟨rfl, HB2.out⟩
theorem number_no (s : ByteArray) (most : Nat) (w : World) (hs : s.size ≤ 281474976710656) (hm : most < 1000) (hE : Env w) (h : numB most s.data.toList = none) :
    Calls Tryd.prog 56 #[.string s, .int .i64 most] w fun e w' => (∃ n : Int, e = .returned (.tuple #[.int .i64 n, .bool false])) ∧ Below w.heap.size w w' := by
  have HE := Lib.hid hE
  rcases hat : atoiAll s.data.toList with v | _ | _
  ·
    have K1 := Lib.hid (Tryd.strconv_Atoi_ok s (by omega) v hat w)
    by_cases h0 : 0 ≤ v
    · have q2 : decide ((0 : Int) ≤ v) = true := decide_eq_true h0
      by_cases h1 : v ≤ most
      · have q3 : decide (v ≤ (most : Int)) = true := decide_eq_true h1
        have q4 : (Lib.itoa v == s.toList) = false := by
          rw [beq_eq_false_iff_ne, Lib.toList_data]
          intro h2
          rw [numB_of_ok hat h0 h1 h2] at h
          cases h
        clear h hat hE
        go_enter Tryd.func56, Tryd.ntmps56
        go_wp2_with fail
        refine K1.out.mono ?_
        rintro e w1 ⟨rfl, hw⟩
        have HB1 := Lib.hid (atoi_below hw)
        have K2 := Lib.hid (itoa_calls v w1 h0 (by omega) (HE.out.below HB1.out))
        clear hw
        go_wp2_with fail
        refine K2.out.mono ?_
        rintro e w2 ⟨rfl, hB⟩
        have HB2 := Lib.hid (below_step HB1.out hB)
        clear hB
        go_wp2
        go_ret2
        exact ⟨⟨v, rfl⟩, HB2.out⟩
      · have q3 : decide (v ≤ (most : Int)) = false := decide_eq_false h1
        clear h hat hE
        go_enter Tryd.func56, Tryd.ntmps56
        go_wp2_with fail
        refine K1.out.mono ?_
        rintro e w1 ⟨rfl, hw⟩
        have HB1 := Lib.hid (atoi_below hw)
        clear hw
        go_wp2
        go_ret2
        exact ⟨⟨v, rfl⟩, HB1.out⟩
    · have q2 : decide ((0 : Int) ≤ v) = false := decide_eq_false h0
      clear h hat hE
      go_enter Tryd.func56, Tryd.ntmps56
      go_wp2_with fail
      refine K1.out.mono ?_
      rintro e w1 ⟨rfl, hw⟩
      have HB1 := Lib.hid (atoi_below hw)
      clear hw
      go_wp2
      go_ret2
      exact ⟨⟨v, rfl⟩, HB1.out⟩
  ·
    obtain ⟨ev, hev, hv⟩ := hE.syn
    have K1 := Lib.hid (Tryd.strconv_Atoi_syntax s hs hat ev w hev hv)
    clear h hat hE hev hv
    go_enter Tryd.func56, Tryd.ntmps56
    go_wp2_with fail
    refine K1.out.mono ?_
    rintro e w1 ⟨N, rfl, _, _, hB⟩
    have HB1 := Lib.hid hB
    clear hB
    go_wp2
    go_ret2
    exact ⟨⟨0, rfl⟩, HB1.out⟩
  ·
    obtain ⟨ev, hev, hv⟩ := hE.rng
    have K1 := Lib.hid (Tryd.strconv_Atoi_range s hs hat ev w hev hv)
    obtain ⟨v, hv2⟩ : ∃ v, atoiSat s.data.toList = v := ⟨_, rfl⟩
    rw [hv2] at K1
    clear h hat hE hev hv hv2
    go_enter Tryd.func56, Tryd.ntmps56
    go_wp2_with fail
    refine K1.out.mono ?_
    rintro e w1 ⟨N, rfl, _, _, hB⟩
    have HB1 := Lib.hid hB
    clear hB
    go_wp2
    go_ret2
    exact ⟨⟨v, rfl⟩, HB1.out⟩
end Go.Proofs.YtgjgafibipepeaaDoor.Q
