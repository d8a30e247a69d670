import Derived.Test.YtcilfjmiiodfgaaDoorJ
namespace Go.Proofs.YtcilfjmiiodfgaaDoor.Q
open Go.RowKit Go.Shelf Go.Proofs.YtcilfjmiiodfgaaDoorW.PrintWords Go.Proofs.YtcilfjmiiodfgaaDoor.Pr
set_option linter.unusedVariables false
set_option linter.unusedSimpArgs false

def JoinPost (d b : ByteArray) (w : World) (e : Ending) (w' : World) : Prop := e = .returned (.tuple #[.string (joinP d b).1, .int .i64 ((joinP d b).2 : Nat)]) ∧ Below w.heap.size w w'
set_option maxHeartbeats 4000000 in
theorem join_no (d b : ByteArray) (w : World) (hs : d.size ≤ 2147483648) (hsb : b.size ≤ 2147483648) (hT : Tabs w) (h : ¬ (isP d = true ∧ nameOk b = true)) : Calls Tryd.prog 18 #[.string d, .string b] w (JoinPost d b w) := by
  have KI := is_calls d w hs hT
  have HJ : Hid (joinP d b = (empty, 50)) := Lib.hid (by unfold joinP; rw [if_neg (fun x => h ⟨x.1, x.2.1⟩)])
  have HT := Lib.hid hT
  cases hi : isP d with
  | false =>
    rw [hi] at KI
    have HK := Lib.hid KI
    clear KI hi hT h
    go_enter Tryd.func18, Tryd.ntmps18
    go_wp2_with fail
    refine HK.out.mono ?_
    rintro e w1 ⟨rfl, hB⟩
    have HB := Lib.hid hB
    clear hB
    go_wp2
    go_ret2
    exact ⟨by rw [HJ.out]; rfl, HB.out⟩
  | true =>
    rw [hi] at KI
    have HK := Lib.hid KI
    have hn : nameOk b = false := by
      cases hn : nameOk b with
      | false => rfl
      | true => exact absurd ⟨hi, hn⟩ h
    obtain ⟨j, hj⟩ : ∃ j, nameFault b = some j := by
      unfold nameOk at hn
      cases hf : nameFault b with
      | none => rw [hf] at hn; cases hn
      | some j => exact ⟨j, rfl⟩
    have hf : faultV b = j := by unfold faultV; rw [hj]
    have HF := Lib.hid hf
    clear KI hi hT h hn hj hf
    go_enter Tryd.func18, Tryd.ntmps18
    go_wp2_with fail
    refine HK.out.mono ?_
    rintro e w1 ⟨rfl, hB⟩
    have HB := Lib.hid hB
    clear hB
    go_wp2_with fail
    refine (fault_calls b w1 (by omega) (tabs_from HT.out HB.out)).mono ?_
    rintro e w2 ⟨rfl, hB⟩
    rw [HF.out]
    have HB2 := Lib.hid (below_step HB.out hB)
    clear hB
    go_wp2
    go_ret2
    exact ⟨by rw [HJ.out]; rfl, HB2.out⟩
set_option maxHeartbeats 4000000 in
theorem join_yes (d b : ByteArray) (w : World) (hs : d.size ≤ 2147483648) (hsb : b.size ≤ 2147483648) (hT : Tabs w) (hd : isP d = true) (hb : nameOk b = true) : Calls Tryd.prog 18 #[.string d, .string b] w (JoinPost d b w) := by
  have KI := is_calls d w hs hT
  rw [hd] at KI
  have HK := Lib.hid KI
  have HT := Lib.hid hT
  have hf : faultV b = -1 := by
    unfold nameOk at hb
    unfold faultV
    cases hf : nameFault b with
    | none => rfl
    | some j => rw [hf] at hb; cases hb
  have HF := Lib.hid hf
  have HJ : Hid (joinP d b = if (slashed (stem d) b).size ≤ 64 then (slashed (stem d) b, 0) else (empty, 50)) := Lib.hid (by
    unfold joinP
    by_cases h : (slashed (stem d) b).size ≤ 64
    · rw [if_pos ⟨hd, hb, h⟩, if_pos h]
    · rw [if_neg (fun x => h x.2.2), if_neg h])
  have KT := fun w => Tryd.strings_TrimSuffix d ⟨#[47]⟩ w (by omega)
  rw [trim_is hd] at KT
  have HKT := Lib.hid KT
  have hst : (stem d).size ≤ 64 := by
    unfold stem
    split
    · show 0 ≤ 64; omega
    · exact isP_size hd
  have HZ := Lib.hid (slashed_size (stem d) b)
  have HS : Hid (slashed (stem d) b = (stem d ++ (⟨#[47]⟩ : ByteArray)) ++ b) := Lib.hid rfl
  obtain ⟨s, hs2⟩ : ∃ s, stem d = s := ⟨_, rfl⟩
  rw [hs2] at HJ HKT hst HZ HS
  have hz1 : (s ++ (⟨#[47]⟩ : ByteArray)).size = s.size + 1 := by rw [ByteArray.size_append]; rfl
  have HZ1 := Lib.hid hz1
  clear KI KT hd hb hf hT hs2 hz1
  by_cases h64 : s.size + 1 + b.size ≤ 64
  · go_enter Tryd.func18, Tryd.ntmps18
    go_wp2_with fail
    refine HK.out.mono ?_
    rintro e w1 ⟨rfl, hB⟩
    have HB := Lib.hid hB
    clear hB
    go_wp2_with fail
    refine (fault_calls b w1 (by omega) (tabs_from HT.out HB.out)).mono ?_
    rintro e w2 ⟨rfl, hB⟩
    rw [HF.out]
    have HB2 := Lib.hid (below_step HB.out hB)
    clear hB
    go_wp2_with fail
    refine (HKT.out w2).mono ?_
    rintro e w3 ⟨rfl, rfl⟩
    go_wp2
    go_ret2
    exact ⟨by rw [HJ.out, if_pos (by rw [HZ.out]; exact h64), HS.out]; rfl, HB2.out⟩
  · go_enter Tryd.func18, Tryd.ntmps18
    go_wp2_with fail
    refine HK.out.mono ?_
    rintro e w1 ⟨rfl, hB⟩
    have HB := Lib.hid hB
    clear hB
    go_wp2_with fail
    refine (fault_calls b w1 (by omega) (tabs_from HT.out HB.out)).mono ?_
    rintro e w2 ⟨rfl, hB⟩
    rw [HF.out]
    have HB2 := Lib.hid (below_step HB.out hB)
    clear hB
    go_wp2_with fail
    refine (HKT.out w2).mono ?_
    rintro e w3 ⟨rfl, rfl⟩
    go_wp2
    go_ret2
    exact ⟨by rw [HJ.out, if_neg (by rw [HZ.out]; exact h64)]; rfl, HB2.out⟩
theorem join_calls (d b : ByteArray) (w : World) (hs : d.size ≤ 2147483648) (hsb : b.size ≤ 2147483648) (hT : Tabs w) : Calls Tryd.prog 18 #[.string d, .string b] w fun e w' => e = .returned (.tuple #[.string (joinP d b).1, .int .i64 ((joinP d b).2 : Nat)]) ∧ Below w.heap.size w w' := by
  by_cases h : isP d = true ∧ nameOk b = true
  · exact join_yes d b w hs hsb hT h.1 h.2
  · exact join_no d b w hs hsb hT h

/-! IT LIVES -/
def abB : ByteArray := ⟨#[47, 97, 47, 98]⟩
def aB : ByteArray := ⟨#[47, 97]⟩
def bB : ByteArray := ⟨#[98]⟩
theorem ab_check : checkP abB = (0, 0) := by
  have h := refCheck_f abB (by decide) 76 (by decide)
  have h2 : lagoonref05_Check.f 76 abB = some (0, 0) := by kernel_rfl
  rw [h2] at h
  have h3 := Option.some.inj h
  injection h3 with h4 h5
  exact Prod.ext (by show (checkP abB).1 = 0; omega) (by show (checkP abB).2 = 0; omega)
theorem ab_parent : parentP abB = aB := by
  have h := refParent_f abB (by decide) 76 (by decide)
  have h2 : lagoonref05_Parent.f 76 abB = some aB := by kernel_rfl
  rw [h2] at h
  exact (Option.some.inj h).symm
theorem ab_base : baseP abB = bB := by
  have h := refBase_f abB (by decide) 76 (by decide)
  have h2 : lagoonref05_Base.f 76 abB = some bB := by kernel_rfl
  rw [h2] at h
  exact (Option.some.inj h).symm
theorem ab_join : joinP aB bB = (abB, 0) := by
  have h := refJoin_f aB bB (by decide) 92 (by decide)
  have h2 : lagoonref05_Join.f 92 aB bB = some (abB, 0) := by kernel_rfl
  rw [h2] at h
  have h3 := Option.some.inj h
  injection h3 with h4 h5
  exact Prod.ext h4.symm (by show (joinP aB bB).2 = 0; omega)
set_option maxHeartbeats 4000000 in
set_option maxRecDepth 100000 in
theorem lives_calls (w : World) (hT : Tabs w) : Calls Tryd.prog 17 #[] w fun e w' => e = .returned (.bool true) ∧ Below w.heap.size w w' := by
  have HT := Lib.hid hT
  have K1 := check_calls abB w (by decide) hT
  rw [ab_check] at K1
  have HK1 := Lib.hid K1
  have HK2 := Lib.hid (fun w => parent_calls abB w (by decide))
  have HK3 := Lib.hid (fun w => base_calls abB w (by decide))
  have HK4 := Lib.hid (fun w => join_calls aB bB w (by decide) (by decide))
  rw [ab_parent] at HK2
  rw [ab_base] at HK3
  rw [ab_join] at HK4
  have e1 : ((⟨#[47, 97]⟩ : ByteArray).toList == [47, 97]) = true := by rw [Lib.toList_data]; rfl
  have e2 : ((⟨#[98]⟩ : ByteArray).toList == [98]) = true := by rw [Lib.toList_data]; rfl
  have e3 : ((⟨#[47, 97, 47, 98]⟩ : ByteArray).toList == [47, 97, 47, 98]) = true := by rw [Lib.toList_data]; rfl
  clear hT K1
  go_enter Tryd.func17, Tryd.ntmps17
  go_wp2_with fail
  refine HK1.out.mono ?_
  rintro e w1 ⟨rfl, hB⟩
  have HB1 := Lib.hid hB
  clear hB
  go_wp2_with fail
  refine (HK2.out w1 (tabs_from HT.out HB1.out)).mono ?_
  rintro e w2 ⟨rfl, hB⟩
  have HB2 := Lib.hid (below_step HB1.out hB)
  clear hB
  go_wp2_with fail
  refine (HK3.out w2 (tabs_from HT.out HB2.out)).mono ?_
  rintro e w3 ⟨rfl, hB⟩
  have HB3 := Lib.hid (below_step HB2.out hB)
  clear hB
  go_wp2_with fail
  refine (HK4.out w3 (tabs_from HT.out HB3.out)).mono ?_
  rintro e w4 ⟨rfl, hB⟩
  have HB4 := Lib.hid (below_step HB3.out hB)
  clear hB
  simp only [aB, bB, abB]
  go_wp2
  go_ret
  exact ⟨rfl, HB4.out⟩
/-! PathJoins -/
theorem long_is (p : ByteArray) (w : World) (b : Bool) (h : decide ((p.size : Int) ≥ 2147483632) = b) : Calls Tryd.prog 12 #[.string p] w fun e w' => e = .returned (.bool b) ∧ Below w.heap.size w w' := h ▸ long_calls p w
end Go.Proofs.YtcilfjmiiodfgaaDoor.Q
