import Derived.Test.YtcilfjmiiodfgaaDoorR8
namespace Go.Proofs.YtcilfjmiiodfgaaDoor.Q
open Go.RowKit Go.Shelf Go.Proofs.YtcilfjmiiodfgaaDoorW.PrintWords Go.Proofs.YtcilfjmiiodfgaaDoor.Pr
set_option linter.unusedVariables false
set_option linter.unusedSimpArgs false
attribute [local go_sem] Oper.semAt_some

theorem numB_nat {n : Int} (h : 0 ≤ n) (h1 : n ≤ 2147483647) : numB n = ⟨(dgs 10 n.toNat).toArray⟩ := by
  have hd := nDigits_le (u := n.natAbs) (by omega)
  unfold numB numT
  rw [if_neg (by omega), Nat.max_eq_left hd, show n.natAbs = n.toNat by omega]
set_option maxHeartbeats 8000000 in
theorem pathRises_calls (p : ByteArray) (a b : Int) (w : World) (a0 : -2147483648 ≤ a) (a1 : a ≤ 2147483647) (b0 : -2147483648 ≤ b) (b1 : b ≤ 2147483647) (hT : Tabs w) (hP : Pows w) : Calls Tryd.prog 11 #[.string p, .int .i32 a, .int .i32 b] w fun e w' => e = .returned (.bool true) ∧ Below w.heap.size w w' := by
  have HT := Lib.hid hT
  have HP := Lib.hid hP
  clear hT hP
  by_cases hb : (p.size : Int) ≥ 2147483632
  · have K1 := Lib.hid (long_is p w true (decide_eq_true hb))
    go_enter Tryd.func11, Tryd.ntmps11
    go_wp2_with fail
    refine (K1.out).mono ?_
    rintro e w1 ⟨rfl, hB⟩
    have HB1 := Lib.hid (hB)
    clear hB
    go_wp2
    go_ret
    exact ⟨rfl, HB1.out⟩
  have K1 := Lib.hid (long_is p w false (decide_eq_false hb))
  have K2 := Lib.hid (fun w => lives_calls w)
  by_cases ha0 : a < 0
  · have q0 : decide (a < 0) = true := decide_eq_true ha0
    go_enter Tryd.func11, Tryd.ntmps11
    go_wp2_with fail
    refine (K1.out).mono ?_
    rintro e w1 ⟨rfl, hB⟩
    have HB1 := Lib.hid (hB)
    clear hB
    go_wp2_with fail
    refine (K2.out w1 (tabs_from HT.out HB1.out)).mono ?_
    rintro e w2 ⟨rfl, hB⟩
    have HB2 := Lib.hid (below_step HB1.out hB)
    clear hB
    go_wp2
    go_ret
    exact ⟨by simp, HB2.out⟩
  have q0 : decide (a < 0) = false := decide_eq_false ha0
  by_cases hb0 : b < 0
  · have q1 : decide (b < 0) = true := decide_eq_true hb0
    go_enter Tryd.func11, Tryd.ntmps11
    go_wp2_with fail
    refine (K1.out).mono ?_
    rintro e w1 ⟨rfl, hB⟩
    have HB1 := Lib.hid (hB)
    clear hB
    go_wp2_with fail
    refine (K2.out w1 (tabs_from HT.out HB1.out)).mono ?_
    rintro e w2 ⟨rfl, hB⟩
    have HB2 := Lib.hid (below_step HB1.out hB)
    clear hB
    go_wp2
    go_ret
    exact ⟨by simp, HB2.out⟩
  have q1 : decide (b < 0) = false := decide_eq_false hb0
  by_cases hab : b ≤ a
  · have q2 : decide (b ≤ a) = true := decide_eq_true hab
    go_enter Tryd.func11, Tryd.ntmps11
    go_wp2_with fail
    refine (K1.out).mono ?_
    rintro e w1 ⟨rfl, hB⟩
    have HB1 := Lib.hid (hB)
    clear hB
    go_wp2_with fail
    refine (K2.out w1 (tabs_from HT.out HB1.out)).mono ?_
    rintro e w2 ⟨rfl, hB⟩
    have HB2 := Lib.hid (below_step HB1.out hB)
    clear hB
    go_wp2
    go_ret
    exact ⟨by simp, HB2.out⟩
  have q2 : decide (b ≤ a) = false := decide_eq_false hab
  have K3 := Lib.hid (fun w => seq_calls p a w (by omega) a0 a1)
  have K4 := Lib.hid (fun w => seq_calls p b w (by omega) b0 b1)
  have ea := numB_nat (n := a) (by omega) a1
  have eb := numB_nat (n := b) (by omega) b1
  have hS := sim_dgs p 10 a.toNat b.toNat
  have hE := hS.path_eq
  have sa : seqP p a = if isP (p ++ numB a) = true then (p ++ numB a, 0) else (empty, 50) := rfl
  have sb : seqP p b = if isP (p ++ numB b) = true then (p ++ numB b, 0) else (empty, 50) := rfl
  rw [ea] at sa
  rw [eb, ← hE] at sb
  cases hi : isP (p ++ ⟨(dgs 10 a.toNat).toArray⟩) with
  | false =>
    rw [hi, if_neg (by decide)] at sa sb
    rw [sa] at K3
    rw [sb] at K4
    have E0 : (⟨#[]⟩ : ByteArray).toList.isEmpty = true := by rw [Lib.toList_data]; rfl
    simp only [empty] at K3 K4
    clear sa sb hE hS ea eb hi
    go_enter Tryd.func11, Tryd.ntmps11
    go_wp2_with fail
    refine (K1.out).mono ?_
    rintro e w1 ⟨rfl, hB⟩
    have HB1 := Lib.hid (hB)
    clear hB
    go_wp2_with fail
    refine (K2.out w1 (tabs_from HT.out HB1.out)).mono ?_
    rintro e w2 ⟨rfl, hB⟩
    have HB2 := Lib.hid (below_step HB1.out hB)
    clear hB
    go_wp2_with fail
    refine (K3.out w2 (tabs_from HT.out HB2.out) (pows_from HP.out HB2.out)).mono ?_
    rintro e w3 ⟨rfl, hB⟩
    have HB3 := Lib.hid (below_step HB2.out hB)
    clear hB
    go_wp2_with fail
    refine (K4.out w3 (tabs_from HT.out HB3.out) (pows_from HP.out HB3.out)).mono ?_
    rintro e w4 ⟨rfl, hB⟩
    have HB4 := Lib.hid (below_step HB3.out hB)
    clear hB
    go_wp2
    go_ret
    exact ⟨by simp, HB4.out⟩
  | true =>
    rw [hi, if_pos rfl] at sa sb
    rw [sa] at K3
    rw [sb] at K4
    have hless := two_less p (a := a.toNat) (b := b.toNat) (by omega) (by omega)
    have hpar := two_parent p a.toNat b.toNat hi
    have za : (p ++ ⟨(dgs 10 a.toNat).toArray⟩).size = p.size + 10 := by rw [ByteArray.size_append, show (⟨(dgs 10 a.toNat).toArray⟩ : ByteArray).size = 10 by rw [bs_size, dgs_length]]
    have zb := hS.size
    rw [za] at zb
    have hck := checkP_ok _ hi
    obtain ⟨s, hs⟩ : ∃ s : ByteArray, p ++ ⟨(dgs 10 a.toNat).toArray⟩ = s := ⟨_, rfl⟩
    obtain ⟨t, ht⟩ : ∃ t : ByteArray, p ++ ⟨(dgs 10 b.toNat).toArray⟩ = t := ⟨_, rfl⟩
    rw [hs] at K3 hless hpar za hck
    rw [ht] at K4 hless hpar zb
    have K5 := Lib.hid (fun w => check_calls s w (by omega))
    rw [hck] at K5
    have K6 := Lib.hid (fun w => parent_calls s w (by omega))
    have K7 := Lib.hid (fun w => parent_calls t w (by omega))
    rw [← hpar] at K7
    obtain ⟨x, hx⟩ : ∃ x, parentP s = x := ⟨_, rfl⟩
    rw [hx] at K6 K7
    have e1 : (x.toList == x.toList) = true := by simp
    have e2 : ((s.size : Int) == (t.size : Int)) = true := by rw [beq_iff_eq]; omega
    have e3 : ((s.size : Int) == (p.size : Int) + 10) = true := by rw [beq_iff_eq]; omega
    clear sa sb hE hS ea eb hi hck hs ht hpar hx
    go_enter Tryd.func11, Tryd.ntmps11
    go_wp2_with fail
    refine (K1.out).mono ?_
    rintro e w1 ⟨rfl, hB⟩
    have HB1 := Lib.hid (hB)
    clear hB
    go_wp2_with fail
    refine (K2.out w1 (tabs_from HT.out HB1.out)).mono ?_
    rintro e w2 ⟨rfl, hB⟩
    have HB2 := Lib.hid (below_step HB1.out hB)
    clear hB
    go_wp2_with fail
    refine (K3.out w2 (tabs_from HT.out HB2.out) (pows_from HP.out HB2.out)).mono ?_
    rintro e w3 ⟨rfl, hB⟩
    have HB3 := Lib.hid (below_step HB2.out hB)
    clear hB
    go_wp2_with fail
    refine (K4.out w3 (tabs_from HT.out HB3.out) (pows_from HP.out HB3.out)).mono ?_
    rintro e w4 ⟨rfl, hB⟩
    have HB4 := Lib.hid (below_step HB3.out hB)
    clear hB
    go_wp2_with fail
    refine (K5.out w4 (tabs_from HT.out HB4.out)).mono ?_
    rintro e w5 ⟨rfl, hB⟩
    have HB5 := Lib.hid (below_step HB4.out hB)
    clear hB
    go_wp2_with fail
    refine (K6.out w5 (tabs_from HT.out HB5.out)).mono ?_
    rintro e w6 ⟨rfl, hB⟩
    have HB6 := Lib.hid (below_step HB5.out hB)
    clear hB
    go_wp2_with fail
    refine (K7.out w6 (tabs_from HT.out HB6.out)).mono ?_
    rintro e w7 ⟨rfl, hB⟩
    have HB7 := Lib.hid (below_step HB6.out hB)
    clear hB
    go_wp2
    go_ret
    exact ⟨by simp; omega, HB7.out⟩
end Go.Proofs.YtcilfjmiiodfgaaDoor.Q
