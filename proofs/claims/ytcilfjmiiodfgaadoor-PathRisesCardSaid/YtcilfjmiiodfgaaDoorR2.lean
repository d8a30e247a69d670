import Derived.Test.YtcilfjmiiodfgaaDoorR1
namespace Go.Proofs.YtcilfjmiiodfgaaDoor.Q
open Go.RowKit Go.Shelf Go.Proofs.YtcilfjmiiodfgaaDoorW.PrintWords Go.Proofs.YtcilfjmiiodfgaaDoor.Pr
set_option linter.unusedVariables false
set_option linter.unusedSimpArgs false

theorem eqTexts_l0 (l m : List ByteArray) (hl : l.length = m.length) (hz : l.length ≤ 4294967296) : ∀ n i k, l.length - i ≤ n → i ≤ l.length → 1 + n ≤ k → lagoonref00_EqTexts.l0 k l m (i : Nat) = some (decide (l.drop i = m.drop i)) := by
  intro n
  induction n with
  | zero =>
    intro i k h1 h2 hk
    obtain ⟨k, rfl⟩ : ∃ j, k = j + 1 := ⟨k - 1, by omega⟩
    unfold lagoonref00_EqTexts.l0
    rw [if_neg (by omega), List.drop_of_length_le (by omega), List.drop_of_length_le (by omega)]
    simp
  | succ n ih =>
    intro i k h1 h2 hk
    obtain ⟨k, rfl⟩ : ∃ j, k = j + 1 := ⟨k - 1, by omega⟩
    unfold lagoonref00_EqTexts.l0
    by_cases h : i < l.length
    · have hm : i < m.length := by omega
      have a1 : rdOf ByteArray.empty l ((i : Nat) : Int) = l[i] := by simp [rdOf, List.getD_eq_getElem?_getD, h]
      have a2 : rdOf ByteArray.empty m ((i : Nat) : Int) = m[i] := by simp [rdOf, List.getD_eq_getElem?_getD, hm]
      have d1 : l.drop i = l[i] :: l.drop (i + 1) := List.drop_eq_getElem_cons h
      have d2 : m.drop i = m[i] :: m.drop (i + 1) := List.drop_eq_getElem_cons hm
      rw [if_pos (by omega), if_pos (by omega), if_pos (by omega), a1, a2]
      have hw : wrap64 (((i : Nat) : Int) + 1) = ((i + 1 : Nat) : Int) := by unfold wrap64; omega
      by_cases e : l[i] = m[i]
      · rw [if_pos (by rw [e]), hw, ih (i + 1) k (by omega) (by omega) (by omega)]
        refine congrArg some (decide_eq_decide.2 ?_)
        rw [d1, d2, e]
        exact ⟨fun h => by rw [h], fun h => (List.cons.inj h).2⟩
      · rw [if_neg (fun x => e (toList_inj x))]
        refine congrArg some (decide_eq_false (fun h => e ?_)).symm
        rw [d1, d2] at h
        exact (List.cons.inj h).1
    · rw [if_neg (by omega), List.drop_of_length_le (by omega), List.drop_of_length_le (by omega)]
      simp
theorem eqTexts_f (l m : List ByteArray) (hz : l.length ≤ 4294967296) (k : Nat) (hk : 1 + l.length ≤ k) : lagoonref00_EqTexts.f k l m = some (decide (l = m)) := by
  unfold lagoonref00_EqTexts.f
  by_cases h : l.length = m.length
  · rw [if_pos (by omega)]
    have := eqTexts_l0 l m h hz l.length 0 k (by omega) (by omega) hk
    simpa using this
  · rw [if_neg (by omega)]
    have : l ≠ m := fun x => h (by rw [x])
    simp [this]
theorem eq_calls (l m : List ByteArray) (A B : Option Addr) (c d : Nat) (w : World) (hz : l.length ≤ 4294967296) (h1 : l.length ≤ c) (h2 : m.length ≤ d) (hA : Kd.C Kd.string w A l.length l) (hB : Kd.C Kd.string w B m.length m) :
    Calls Tryd.prog 25 #[.slice A l.length c, .slice B m.length d] w fun e w' => e = .returned (.bool (decide (l = m))) ∧ Below w.heap.size w w' :=
  (lagoonref00_EqTexts.calls _ A c l B d m _ w hA h1 hB h2 (eqTexts_f l m hz _ (Nat.le_refl _))).mono fun e w' h => ⟨h.1, h.2.below⟩
theorem texts_below {w w' : World} {A : Option Addr} {l : List ByteArray} (h : Kd.C Kd.string w A l.length l) (hB : Below w.heap.size w w') : Kd.C Kd.string w' A l.length l := Kd.C_below h hB
/-- all that lies above, as texts -/
theorem take_all (p : ByteArray) : (aboveP p).take 200 = aboveP p := List.take_of_length_le (by have := above_len p; omega)
theorem coll_calls (p : ByteArray) (w : World) (hs : p.size ≤ 2147483648) (hT : Tabs w) : Calls Tryd.prog 22 #[.string p, .int .i64 200] w fun e w' => ∃ v, e = .returned v ∧ w'.ownsRow w.heap.size 9 1 v (aboveP p).length (texts (aboveP p)) ∧ Below w.heap.size w w' :=
  (collect_calls p 200 w hs hT).mono fun e w' h => by
    obtain ⟨v, h1, h2, h3⟩ := h
    rw [take_all] at h2
    exact ⟨v, h1, h2, h3⟩
set_option maxHeartbeats 8000000 in
theorem pathParts_calls (p : ByteArray) (w : World) (hT : Tabs w) : Calls Tryd.prog 6 #[.string p] w fun e w' => e = .returned (.bool true) ∧ Below w.heap.size w w' := by
  have HT := Lib.hid hT
  clear hT
  by_cases h1 : (p.size : Int) ≥ 2147483632
  · have K1 := Lib.hid (long_is p w true (decide_eq_true h1))
    go_enter Tryd.func6, Tryd.ntmps6
    go_wp2_with fail
    refine K1.out.mono ?_
    rintro e w1 ⟨rfl, hB⟩
    have HB := Lib.hid hB
    clear hB
    go_wp2
    go_ret
    exact ⟨rfl, HB.out⟩
  have K1 := Lib.hid (long_is p w false (decide_eq_false h1))
  have K2 := Lib.hid (fun w => parent_calls p w (by omega))
  have K3 := Lib.hid (fun w => base_calls p w (by omega))
  have K4 := Lib.hid (fun w => coll_calls p w (by omega))
  have K5 := Lib.hid (fun w => refParent_calls p w (by omega))
  have K6 := Lib.hid (fun w => refBase_calls p w (by omega))
  have K7 := Lib.hid (fun w => refAbove_calls p w (by omega))
  have hal := above_len p
  obtain ⟨l, hl⟩ : ∃ l, aboveP p = l := ⟨_, rfl⟩
  obtain ⟨x, hx⟩ : ∃ x, parentP p = x := ⟨_, rfl⟩
  obtain ⟨y, hy⟩ : ∃ y, baseP p = y := ⟨_, rfl⟩
  rw [hx] at K2 K5
  rw [hy] at K3 K6
  rw [hl] at K4 K7 hal
  have e1 : (x.toList == x.toList) = true := by simp
  have e2 : (y.toList == y.toList) = true := by simp
  clear hl hx hy
  go_enter Tryd.func6, Tryd.ntmps6
  go_wp2_with fail
  refine K1.out.mono ?_
  rintro e w1 ⟨rfl, hB⟩
  have HB := Lib.hid hB
  clear hB
  go_wp2_with fail
  refine (lives_calls w1 (tabs_from HT.out HB.out)).mono ?_
  rintro e w2 ⟨rfl, hB⟩
  have HB2 := Lib.hid (below_step HB.out hB)
  clear hB
  go_wp2_with fail
  refine (K2.out w2 (tabs_from HT.out HB2.out)).mono ?_
  rintro e w3 ⟨rfl, hB⟩
  have HB3 := Lib.hid (below_step HB2.out hB)
  clear hB
  go_wp2_with fail
  refine (K3.out w3 (tabs_from HT.out HB3.out)).mono ?_
  rintro e w4 ⟨rfl, hB⟩
  have HB4 := Lib.hid (below_step HB3.out hB)
  clear hB
  go_wp2_with fail
  refine (K4.out w4 (tabs_from HT.out HB4.out)).mono ?_
  rintro e w5 ⟨v, rfl, hrow, hB⟩
  obtain ⟨A, c, rfl, hc, hC⟩ := own_texts hrow (by omega)
  have HB5 := Lib.hid (below_step HB4.out hB)
  have HC := Lib.hid hC
  clear hB hrow hC
  go_wp2_with fail
  refine (K5.out w5).mono ?_
  rintro e w6 ⟨rfl, hB⟩
  have HC6 := Lib.hid (texts_below HC.out hB)
  have HB6 := Lib.hid (below_step HB5.out hB)
  clear hB
  go_wp2_with fail
  refine (K6.out w6).mono ?_
  rintro e w7 ⟨rfl, hB⟩
  have HC7 := Lib.hid (texts_below HC6.out hB)
  have HB7 := Lib.hid (below_step HB6.out hB)
  clear hB
  go_wp2_with fail
  refine (K7.out w7).mono ?_
  rintro e w8 ⟨v, rfl, hR, hB⟩
  obtain ⟨B, d, rfl, hd, hD⟩ := Kd.R_reads hR
  have HC8 := Lib.hid (texts_below HC7.out hB)
  have HB8 := Lib.hid (below_step HB7.out hB)
  have HD8 := Lib.hid hD
  clear hB hR hD
  go_wp2_with fail
  refine (eq_calls l l A B c d w8 (by omega) hc hd HC8.out HD8.out).mono ?_
  rintro e w9 ⟨rfl, hB⟩
  have HB9 := Lib.hid (below_step HB8.out hB)
  clear hB
  go_wp2
  go_ret
  exact ⟨by simp, HB9.out⟩
end Go.Proofs.YtcilfjmiiodfgaaDoor.Q
