import Derived.Test.YtcilfjmiiodfgaaDoorR6
namespace Go.Proofs.YtcilfjmiiodfgaaDoor.Q
open Go.RowKit Go.Shelf Go.Proofs.YtcilfjmiiodfgaaDoorW.PrintWords Go.Proofs.YtcilfjmiiodfgaaDoor.Pr
set_option linter.unusedVariables false
set_option linter.unusedSimpArgs false
attribute [local go_sem] Oper.semAt_some

theorem refIs_calls (p : ByteArray) (w : World) (hs : p.size ≤ 2147483648) : Calls Tryd.prog 32 #[.string p] w fun e w' => e = .returned (.bool (isP p)) ∧ Below w.heap.size w w' :=
  lagoonref05_Is.calls (4 * p.size + 60) p _ w (is_f p (by omega) _ (by omega))
set_option maxHeartbeats 4000000 in
theorem refSeq_calls (p : ByteArray) (n : Int) (w : World) (hs : p.size ≤ 2147483636) (h0 : -2147483648 ≤ n) (h1 : n ≤ 2147483647) : Calls Tryd.prog 29 #[.string p, .int .i32 n] w fun e w' => e = .returned (.tuple #[.string (seqP p n).1, .int .i64 ((seqP p n).2 : Nat)]) ∧ Below w.heap.size w w' := by
  have hsz := numT_size (n := n) h0 h1
  have hnz : (numB n).size ≤ 11 := by rw [show (numB n).size = (numT n).length from bs_size _]; exact hsz
  have K1 := Lib.hid (fun w => digits_calls n w h0 h1)
  have hzz : (p ++ numB n).size ≤ 2147483648 := by rw [ByteArray.size_append]; omega
  have K2 := Lib.hid (fun w => refIs_calls (p ++ numB n) w hzz)
  have hS : seqP p n = if isP (p ++ numB n) = true then (p ++ numB n, 0) else (empty, 50) := rfl
  obtain ⟨d, hd⟩ : ∃ d, numB n = d := ⟨_, rfl⟩
  rw [hd] at hnz K1 K2 hS
  cases hi : isP (p ++ d) with
  | true =>
    rw [hi] at K2 hS
    rw [if_pos rfl] at hS
    rw [hS]
    clear hS hd hzz
    go_enter Tryd.func29, Tryd.ntmps29
    go_wp2_with fail
    refine (K1.out w).mono ?_
    rintro e w1 ⟨rfl, hB⟩
    have HB1 := Lib.hid (hB)
    clear hB
    go_wp2_with fail
    refine (K2.out w1).mono ?_
    rintro e w2 ⟨rfl, hB⟩
    have HB2 := Lib.hid (below_step HB1.out hB)
    clear hB
    go_wp2
    go_ret2
    exact ⟨rfl, HB2.out⟩
  | false =>
    rw [hi] at K2 hS
    rw [if_neg (by decide)] at hS
    rw [hS]
    clear hS hd hzz
    go_enter Tryd.func29, Tryd.ntmps29
    go_wp2_with fail
    refine (K1.out w).mono ?_
    rintro e w1 ⟨rfl, hB⟩
    have HB1 := Lib.hid (hB)
    clear hB
    go_wp2_with fail
    refine (K2.out w1).mono ?_
    rintro e w2 ⟨rfl, hB⟩
    have HB2 := Lib.hid (below_step HB1.out hB)
    clear hB
    go_wp2
    go_ret2
    exact ⟨rfl, HB2.out⟩
theorem seven : (seqP ⟨#[47, 97]⟩ 7) = (⟨#[47, 97, 48, 48, 48, 48, 48, 48, 48, 48, 48, 55]⟩, 0) := by
  have hz : (⟨#[47, 97]⟩ : ByteArray) ++ numB 7 = ⟨#[47, 97, 48, 48, 48, 48, 48, 48, 48, 48, 48, 55]⟩ := by
    have : numT 7 = [48, 48, 48, 48, 48, 48, 48, 48, 48, 55] := by
      unfold numT
      rw [if_neg (by decide), show max 10 (Lib.nDigits (Int.natAbs 7)) = 10 by rw [Lib.nDigits_small (by decide)]; rfl]
      decide
    unfold numB
    rw [this]
    apply toList_inj
    rw [Lib.toList_data, Lib.toList_data]
    simp [ByteArray.data_append]
  have h := is_f ⟨#[47, 97, 48, 48, 48, 48, 48, 48, 48, 48, 48, 55]⟩ (by decide) 108 (by decide)
  have h2 : lagoonref05_Is.f 108 ⟨#[47, 97, 48, 48, 48, 48, 48, 48, 48, 48, 48, 55]⟩ = some true := by kernel_rfl
  rw [h2] at h
  unfold seqP
  rw [hz, if_pos (Option.some.inj h).symm]
set_option maxHeartbeats 4000000 in
theorem pathNumbers_calls (p : ByteArray) (n : Int) (w : World) (h0 : -2147483648 ≤ n) (h1 : n ≤ 2147483647) (hT : Tabs w) (hP : Pows w) : Calls Tryd.prog 10 #[.string p, .int .i32 n] w fun e w' => e = .returned (.bool true) ∧ Below w.heap.size w w' := by
  have HT := Lib.hid hT
  have HP := Lib.hid hP
  clear hT hP
  by_cases hb : (p.size : Int) ≥ 2147483632
  · have K1 := Lib.hid (long_is p w true (decide_eq_true hb))
    go_enter Tryd.func10, Tryd.ntmps10
    go_wp2_with fail
    refine (K1.out).mono ?_
    rintro e w1 ⟨rfl, hB⟩
    have HB1 := Lib.hid (hB)
    clear hB
    go_wp2
    go_ret
    exact ⟨rfl, HB1.out⟩
  have K1 := Lib.hid (long_is p w false (decide_eq_false hb))
  have K2 := Lib.hid (fun w => seq_calls p n w (by omega) h0 h1)
  have K3 := Lib.hid (fun w => refSeq_calls p n w (by omega) h0 h1)
  have K4 := Lib.hid (fun w => seq_calls ⟨#[47, 97]⟩ 7 w (by decide) (by decide) (by decide))
  rw [seven] at K4
  obtain ⟨s, hs⟩ : ∃ s, (seqP p n).1 = s := ⟨_, rfl⟩
  obtain ⟨x, hx⟩ : ∃ x : Nat, (seqP p n).2 = x := ⟨_, rfl⟩
  rw [hs, hx] at K2 K3
  have e1 : (s.toList == s.toList) = true := by simp
  have e2 : ((x : Int) == (x : Int)) = true := by simp
  clear hs hx
  go_enter Tryd.func10, Tryd.ntmps10
  go_wp2_with fail
  refine (K1.out).mono ?_
  rintro e w1 ⟨rfl, hB⟩
  have HB1 := Lib.hid (hB)
  clear hB
  go_wp2_with fail
  refine (K2.out w1 (tabs_from HT.out HB1.out) (pows_from HP.out HB1.out)).mono ?_
  rintro e w2 ⟨rfl, hB⟩
  have HB2 := Lib.hid (below_step HB1.out hB)
  clear hB
  go_wp2_with fail
  refine (K3.out w2).mono ?_
  rintro e w3 ⟨rfl, hB⟩
  have HB3 := Lib.hid (below_step HB2.out hB)
  clear hB
  go_wp2_with fail
  refine (K4.out w3 (tabs_from HT.out HB3.out) (pows_from HP.out HB3.out)).mono ?_
  rintro e w4 ⟨rfl, hB⟩
  have HB4 := Lib.hid (below_step HB3.out hB)
  clear hB
  go_wp2
  go_ret
  exact ⟨by simp, HB4.out⟩
end Go.Proofs.YtcilfjmiiodfgaaDoor.Q
