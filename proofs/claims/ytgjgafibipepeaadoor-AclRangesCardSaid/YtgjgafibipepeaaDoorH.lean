import Derived.Test.YtgjgafibipepeaaDoorG
namespace Go.Proofs.YtgjgafibipepeaaDoor.Q
open Go.RowKit Go.Proofs.YtgjgafibipepeaaDoorW.PrintWords Go.Deep Go.Maps Go.WideShapes Go.Lib
set_option linter.unusedVariables false
set_option linter.unusedSimpArgs false
attribute [local go_sem] Oper.semAt_some

/-! A NAME -/
theorem iterPos_of {w : World} {g : Nat} {s : ByteArray} {p : Nat} (h : w.heap[g]? = some (.stringIter s p)) : w.iterPos g = p := by simp [World.iterPos, h]
set_option maxRecDepth 100000 in
set_option maxHeartbeats 8000000 in
theorem isName_calls (s : ByteArray) (w : World) (hs : s.size ≤ 536870912) :
    Calls Tryd.prog 48 #[.string s] w fun e w' => e = .returned (.bool (nameB s.data.toList)) ∧ Below w.heap.size w w' := by
  obtain ⟨R, hR⟩ : ∃ R, nameB s.data.toList = R := ⟨_, rfl⟩
  have HR := Lib.hid hR
  rw [hR]
  clear hR
  go_enter Tryd.func48, Tryd.ntmps48
  go_wp2_with fail
  go_loopw [] (fun wr => ∃ pos : Nat, pos ≤ s.size ∧ Hid (okTo s pos) ∧ wr.heap[w.heap.size]? = some (.stringIter s pos) ∧ Hid (Below w.heap.size w wr)) (fun wr => s.size - wr.iterPos w.heap.size)
  case atStart =>
    exact ⟨0, Nat.zero_le _, Lib.hid (fun j hj => absurd hj (Nat.not_lt_zero _)), World.iter_heap w s 0, Lib.hid ((Below.refl _ w).alloc (Nat.le_refl _) _)⟩
  case round =>
    obtain ⟨pos, hle, HO, hit, HB⟩ := hrel
    by_cases hp : pos < s.size
    · have hnx : ∀ ty, (Instr.next (.pointer (some ⟨w.heap.size, 0, none⟩)) true ty).run Tryd.prog wr = _ := fun ty => Lib.run_next_any_at wr w.heap.size s pos ty hit hp
      have hit2 := Lib.iterAt_heap wr w.heap.size s pos (pos + (Utf8.decode s pos).2) hit
      have hb2 := Lib.below_iterAt HB.out (k := w.heap.size) (Nat.le_refl _) s (pos + (Utf8.decode s pos).2)
      have HB2 := Lib.hid hb2
      have HI := Lib.hid hit
      have HI2 := Lib.hid hit2
      have HOK := Lib.hid (okC_at s pos)
      have HON := Lib.hid (okC_one s pos)
      obtain ⟨c, hc⟩ : ∃ c, (Utf8.decode s pos).1 = c := ⟨_, rfl⟩
      obtain ⟨n, hn⟩ : ∃ c, (Utf8.decode s pos).2 = c := ⟨_, rfl⟩
      rw [hc] at hnx HOK HON
      rw [hn] at hnx HB2 HI2 HON
      clear hc hn hit hit2 hb2
      obtain ⟨W, hW⟩ : ∃ V, wr.iterAt w.heap.size s (pos + n) = V := ⟨_, rfl⟩
      rw [hW] at hnx HB2 HI2
      clear hW
      have hcat : (97 ≤ c ∧ c ≤ 122) ∨ (48 ≤ c ∧ c ≤ 57) ∨ (c = 46) ∨ (c = 95) ∨ (c = 45) ∨ (c < 48 ∧ c ≠ 46 ∧ c ≠ 45) ∨ (57 < c ∧ c < 97 ∧ c ≠ 95) ∨ (122 < c) := by omega
      rcases hcat with hc | hc | hc | hc | hc | hc | hc | hc
      · have HOT : Hid (okTo s (pos + n)) := Lib.hid (by
          have h1 : okC c = true := by unfold okC; simp; omega
          rw [HON.out h1]
          intro j hj
          by_cases hj2 : j < pos
          · exact HO.out j hj2
          · obtain rfl : j = pos := by omega
            rw [← HOK.out]; exact h1)
        have HN1 : Hid (n = 1) := Lib.hid (HON.out (by unfold okC; simp; omega))
        have g0 : decide ((c : Int) < 97) = false := decide_eq_false (by omega)
        have g1 : decide ((122 : Int) < (c : Int)) = false := decide_eq_false (by omega)
        clear hc
        go_wp2
        have hm1 := iterPos_of HI2.out
        have hm2 := iterPos_of HI.out
        refine ⟨⟨pos + n, by have := HN1.out; omega, HOT, HI2.out, HB2⟩, ?_⟩
        rw [hm1, hm2]; have := HN1.out; omega
      · have HOT : Hid (okTo s (pos + n)) := Lib.hid (by
          have h1 : okC c = true := by unfold okC; simp; omega
          rw [HON.out h1]
          intro j hj
          by_cases hj2 : j < pos
          · exact HO.out j hj2
          · obtain rfl : j = pos := by omega
            rw [← HOK.out]; exact h1)
        have HN1 : Hid (n = 1) := Lib.hid (HON.out (by unfold okC; simp; omega))
        have g0 : decide ((c : Int) < 97) = true := decide_eq_true (by omega)
        have g1 : decide ((c : Int) < 48) = false := decide_eq_false (by omega)
        have g2 : decide ((57 : Int) < (c : Int)) = false := decide_eq_false (by omega)
        clear hc
        go_wp2
        have hm1 := iterPos_of HI2.out
        have hm2 := iterPos_of HI.out
        refine ⟨⟨pos + n, by have := HN1.out; omega, HOT, HI2.out, HB2⟩, ?_⟩
        rw [hm1, hm2]; have := HN1.out; omega
      · have HOT : Hid (okTo s (pos + n)) := Lib.hid (by
          have h1 : okC c = true := by unfold okC; simp; omega
          rw [HON.out h1]
          intro j hj
          by_cases hj2 : j < pos
          · exact HO.out j hj2
          · obtain rfl : j = pos := by omega
            rw [← HOK.out]; exact h1)
        have HN1 : Hid (n = 1) := Lib.hid (HON.out (by unfold okC; simp; omega))
        have g0 : decide ((c : Int) < 97) = true := decide_eq_true (by omega)
        have g1 : decide ((c : Int) < 48) = true := decide_eq_true (by omega)
        have g2 : ((c : Int) != 46) = false := by rw [bne_eq_false_iff_eq]; omega
        clear hc
        go_wp2
        have hm1 := iterPos_of HI2.out
        have hm2 := iterPos_of HI.out
        refine ⟨⟨pos + n, by have := HN1.out; omega, HOT, HI2.out, HB2⟩, ?_⟩
        rw [hm1, hm2]; have := HN1.out; omega
      · have HOT : Hid (okTo s (pos + n)) := Lib.hid (by
          have h1 : okC c = true := by unfold okC; simp; omega
          rw [HON.out h1]
          intro j hj
          by_cases hj2 : j < pos
          · exact HO.out j hj2
          · obtain rfl : j = pos := by omega
            rw [← HOK.out]; exact h1)
        have HN1 : Hid (n = 1) := Lib.hid (HON.out (by unfold okC; simp; omega))
        have g0 : decide ((c : Int) < 97) = true := decide_eq_true (by omega)
        have g1 : decide ((c : Int) < 48) = false := decide_eq_false (by omega)
        have g2 : decide ((57 : Int) < (c : Int)) = true := decide_eq_true (by omega)
        have g3 : ((c : Int) != 46) = true := by rw [bne_iff_ne]; omega
        have g4 : ((c : Int) != 95) = false := by rw [bne_eq_false_iff_eq]; omega
        clear hc
        go_wp2
        have hm1 := iterPos_of HI2.out
        have hm2 := iterPos_of HI.out
        refine ⟨⟨pos + n, by have := HN1.out; omega, HOT, HI2.out, HB2⟩, ?_⟩
        rw [hm1, hm2]; have := HN1.out; omega
      · have HOT : Hid (okTo s (pos + n)) := Lib.hid (by
          have h1 : okC c = true := by unfold okC; simp; omega
          rw [HON.out h1]
          intro j hj
          by_cases hj2 : j < pos
          · exact HO.out j hj2
          · obtain rfl : j = pos := by omega
            rw [← HOK.out]; exact h1)
        have HN1 : Hid (n = 1) := Lib.hid (HON.out (by unfold okC; simp; omega))
        have g0 : decide ((c : Int) < 97) = true := decide_eq_true (by omega)
        have g1 : decide ((c : Int) < 48) = true := decide_eq_true (by omega)
        have g2 : ((c : Int) != 46) = true := by rw [bne_iff_ne]; omega
        have g3 : ((c : Int) != 95) = true := by rw [bne_iff_ne]; omega
        have g4 : ((c : Int) != 45) = false := by rw [bne_eq_false_iff_eq]; omega
        clear hc
        go_wp2
        have hm1 := iterPos_of HI2.out
        have hm2 := iterPos_of HI.out
        refine ⟨⟨pos + n, by have := HN1.out; omega, HOT, HI2.out, HB2⟩, ?_⟩
        rw [hm1, hm2]; have := HN1.out; omega
      · have hx : R = false := by
          rw [← HR.out]
          unfold nameB
          rw [not_all s hp (by rw [← HOK.out]; unfold okC; simp; omega)]
          rfl
        subst hx
        have g0 : decide ((c : Int) < 97) = true := decide_eq_true (by omega)
        have g1 : decide ((c : Int) < 48) = true := decide_eq_true (by omega)
        have g2 : ((c : Int) != 46) = true := by rw [bne_iff_ne]; omega
        have g3 : ((c : Int) != 95) = true := by rw [bne_iff_ne]; omega
        have g4 : ((c : Int) != 45) = true := by rw [bne_iff_ne]; omega
        clear hc
        go_wp2
        go_ret
        exact ⟨rfl, HB2.out⟩
      · have hx : R = false := by
          rw [← HR.out]
          unfold nameB
          rw [not_all s hp (by rw [← HOK.out]; unfold okC; simp; omega)]
          rfl
        subst hx
        have g0 : decide ((c : Int) < 97) = true := decide_eq_true (by omega)
        have g1 : decide ((c : Int) < 48) = false := decide_eq_false (by omega)
        have g2 : decide ((57 : Int) < (c : Int)) = true := decide_eq_true (by omega)
        have g3 : ((c : Int) != 46) = true := by rw [bne_iff_ne]; omega
        have g4 : ((c : Int) != 95) = true := by rw [bne_iff_ne]; omega
        have g5 : ((c : Int) != 45) = true := by rw [bne_iff_ne]; omega
        clear hc
        go_wp2
        go_ret
        exact ⟨rfl, HB2.out⟩
      · have hx : R = false := by
          rw [← HR.out]
          unfold nameB
          rw [not_all s hp (by rw [← HOK.out]; unfold okC; simp; omega)]
          rfl
        subst hx
        have g0 : decide ((c : Int) < 97) = false := decide_eq_false (by omega)
        have g1 : decide ((122 : Int) < (c : Int)) = true := decide_eq_true (by omega)
        have g2 : decide ((c : Int) < 48) = false := decide_eq_false (by omega)
        have g3 : decide ((57 : Int) < (c : Int)) = true := decide_eq_true (by omega)
        have g4 : ((c : Int) != 46) = true := by rw [bne_iff_ne]; omega
        have g5 : ((c : Int) != 95) = true := by rw [bne_iff_ne]; omega
        have g6 : ((c : Int) != 45) = true := by rw [bne_iff_ne]; omega
        clear hc
        go_wp2
        go_ret
        exact ⟨rfl, HB2.out⟩
    · have hnx : ∀ ty, (Instr.next (.pointer (some ⟨w.heap.size, 0, none⟩)) true ty).run Tryd.prog wr = _ := fun ty => Lib.run_next_end_at wr w.heap.size s pos ty hit hp
      obtain rfl : pos = s.size := by omega
      have HAL := Lib.hid (okTo_all s HO.out)
      have hlen : s.data.toList.length = s.size := rfl
      have HF : Hid (R = (decide (1 ≤ s.size) && decide (s.size ≤ 24))) := Lib.hid (by rw [← HR.out]; unfold nameB; rw [HAL.out, hlen]; simp)
      clear hit hlen
      by_cases h1 : 1 ≤ s.size
      · have g1 : decide (1 ≤ s.size) = true := decide_eq_true h1
        have g1' : decide ((1 : Int) ≤ (s.size : Int)) = true := decide_eq_true (by omega)
        by_cases h2 : s.size ≤ 24
        · have g2 : decide (s.size ≤ 24) = true := decide_eq_true h2
          have g2' : decide ((s.size : Int) ≤ 24) = true := decide_eq_true (by omega)
          obtain rfl : R = true := by rw [HF.out, g1, g2]; rfl
          go_wp2
          go_ret
          exact ⟨rfl, HB.out⟩
        · have g2 : decide (s.size ≤ 24) = false := decide_eq_false h2
          have g2' : decide ((s.size : Int) ≤ 24) = false := decide_eq_false (by omega)
          obtain rfl : R = false := by rw [HF.out, g1, g2]; rfl
          go_wp2
          go_ret
          exact ⟨rfl, HB.out⟩
      · have g1 : decide (1 ≤ s.size) = false := decide_eq_false h1
        have g1' : decide ((1 : Int) ≤ (s.size : Int)) = false := decide_eq_false (by omega)
        obtain rfl : R = false := by rw [HF.out, g1]; rfl
        go_wp2
        go_ret
        exact ⟨rfl, HB.out⟩
end Go.Proofs.YtgjgafibipepeaaDoor.Q
