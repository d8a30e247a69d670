import Derived.Test.YtfkbknkmanphfaaA
namespace Go.Proofs.Ytfkbknkmanphfaa.Q
open Go.RowKit Go.Proofs.YtfkbknkmanphfaaW.PrintWords
set_option linter.unusedVariables false
set_option linter.unusedSimpArgs false

def leastTo (ws gs : List Int) (s : Int) : Nat → Bool
  | 0 => true
  | i + 1 => leastTo ws gs s i && !(inS s i && hasB ws gs (inS (clr s i)))
def leastB (ws gs : List Int) (s : Int) : Bool := hasB ws gs (inS s) && leastTo ws gs s ws.length

/-- (*System).Counts -/
def countsB (ws : List Int) (n : Int) : Bool := decide (0 ≤ n) && decide (n < ws.length) && decide (0 < ws.getD n.toNat 0)
theorem counts_sys (b : Nat) (ws gs : List Int) (w : World) (h : Sys w b ws gs) (n : Int) (hn : -128 ≤ n ∧ n ≤ 127) :
    Calls Try.prog 26 #[.pointer (some ⟨b, 0, none⟩), .int .i8 n] w fun e w' => e = .returned (.bool (countsB ws n)) ∧ w = w' := by
  have H := Lib.hid h
  obtain ⟨v, aw, ag, cw, cg, h0, h1, h2, h3, h4, h5⟩ := h
  have K := is_sys b ws gs w H.out n hn
  by_cases hi : 0 ≤ n ∧ n < ws.length
  · have K2 : Hid (Calls Try.prog 39 #[.pointer (some ⟨b, 0, none⟩), .int .i8 n] w fun e w' => e = .returned (.bool true) ∧ w = w') := by
      refine Lib.hid (K.mono ?_)
      rintro e w' ⟨rfl, rfl⟩
      simp [hi]
    obtain ⟨m, rfl⟩ := Int.eq_ofNat_of_zero_le hi.1
    have hm : m < ws.length := by omega
    have c := h4 m hm
    have hr := v.wr m hm
    have h7 := v.le7
    have hfin : Hid (countsB ws (m : Int) = decide (0 < ws.getD m 0)) := by
      refine Lib.hid ?_
      unfold countsB
      simp [hm]
    generalize ws.getD m 0 = y at *
    clear h1 h2 h3 h4 h5 K v hi hn
    go_enter Try.func26, Try.ntmps26
    go_wp2_with (go_at_call 39; refine K2.out.mono ?_; rintro e w' ⟨rfl, rfl⟩)
    go_ret
    exact ⟨by rw [hfin.out]; rfl, rfl⟩
  · have K2 : Hid (Calls Try.prog 39 #[.pointer (some ⟨b, 0, none⟩), .int .i8 n] w fun e w' => e = .returned (.bool false) ∧ w = w') := by
      refine Lib.hid (K.mono ?_)
      rintro e w' ⟨rfl, rfl⟩
      simp; omega
    have hfin : Hid (countsB ws n = false) := by
      refine Lib.hid ?_
      unfold countsB
      simp; omega
    clear h0 h1 h2 h3 h4 h5 K v
    go_enter Try.func26, Try.ntmps26
    go_wp2_with (go_at_call 39; refine K2.out.mono ?_; rintro e w' ⟨rfl, rfl⟩)
    go_ret
    exact ⟨by rw [hfin.out]; rfl, rfl⟩

theorem leastTo_false (ws gs : List Int) (s : Int) (i n : Nat) (hi : i < n) (h : (inS s i && hasB ws gs (inS (clr s i))) = true) : leastTo ws gs s n = false := by
  induction n with
  | zero => omega
  | succ n ih =>
    simp only [leastTo]
    by_cases e : i = n
    · subst e; rw [h]; simp
    · rw [ih (by omega)]; rfl

theorem least_sys (b : Nat) (ws gs : List Int) (w : World) (h : Sys w b ws gs) (s : Int) (hn : 0 ≤ s ∧ s ≤ 255) :
    Calls Try.prog 29 #[.pointer (some ⟨b, 0, none⟩), .int .u8 s] w fun e w' => e = .returned (.bool (leastB ws gs s)) ∧ Below w.heap.size w w' := by
  have H := Lib.hid h
  obtain ⟨v, aw, ag, cw, cg, h0, h1, h2, h3, h4, h5⟩ := h
  have h7 := v.le7
  have hp := v.pos
  have K := has_sys b ws gs w H.out s hn
  by_cases hh : hasB ws gs (inS s) = true
  · have K2 : Hid (Calls Try.prog 20 #[.pointer (some ⟨b, 0, none⟩), .int .u8 s] w fun e w' => e = .returned (.bool true) ∧ Below w.heap.size w w') := by
      refine Lib.hid (K.mono ?_)
      rintro e w' ⟨rfl, hb⟩
      exact ⟨by rw [hh], hb⟩
    obtain ⟨hn1, hn2⟩ := hn
    clear h1 h2 h3 h4 h5 K v
    have HH := Lib.hid hh
    clear hh
    go_enter Try.func29, Try.ntmps29
    go_wp2_with (go_at_call 20; refine K2.out.mono ?_; rintro e w1 ⟨rfl, hb⟩; have c0 := pw_cell_below hb h0; have HB := Lib.hid hb; clear hb)
    go_loopw [16] (fun v wr => ∃ k : Nat, k ≤ ws.length ∧ v = .int .i64 k ∧ Hid (Below w.heap.size w wr) ∧ Hid (leastTo ws gs s k = true)) (fun v _ => ws.length - (intOf v).toNat)
    case atStart => exact ⟨0, by omega, rfl, HB, Lib.hid rfl⟩
    case round =>
      obtain ⟨k, hk, rfl, HB1, HL⟩ := hrel
      clear h0 c0 HB
      by_cases hlt : k < ws.length
      · have h8 : k < 8 := by omega
        have T := and_pow_u8 s k hn1 hn2 h8
        have S1 := H.out.below HB1.out
        have C := has_sys b ws gs wr S1 (clr s k) (clr_bd s k hn1 hn2 h8)
        by_cases hin : inS s k = true
        · have T2 : ¬ (bits .and .u8 s (2 ^ k % 256) = 0) := by rw [T, hin]; simp
          clear T S1
          cases hv : hasB ws gs (inS (clr s k)) with
          | true =>
            have C2 := calls_eq C (by rw [hv])
            have HF : Hid (leastB ws gs s = false) := by
              refine Lib.hid ?_
              unfold leastB
              rw [leastTo_false ws gs s k ws.length hlt (by rw [hin, hv]; rfl)]; simp
            clear C hin hv
            go_wp2_with (go_at_call 20; refine C2.out.mono ?_; rintro e w2 ⟨rfl, hb2⟩)
            go_ret
            exact ⟨by rw [HF.out]; rfl, below_then HB1.out HB1.out.size hb2⟩
          | false =>
            have C2 := calls_eq C (by rw [hv])
            have HF : Hid (leastTo ws gs s (k + 1) = true) := by
              refine Lib.hid ?_
              simp [leastTo, HL.out, hv]
            clear C hin hv
            go_wp2_with (go_at_call 20; refine C2.out.mono ?_; rintro e w2 ⟨rfl, hb2⟩)
            exact ⟨⟨k + 1, by omega, by go_num, Lib.hid (below_then HB1.out HB1.out.size hb2), HF⟩, by simp [intOf]; omega⟩
        · have T2 : (bits .and .u8 s (2 ^ k % 256) = 0) := by rw [T]; simpa using hin
          have HF : Hid (leastTo ws gs s (k + 1) = true) := by
            refine Lib.hid ?_
            simp [leastTo, HL.out, hin]
          clear T S1 hin C
          go_wp2
          exact ⟨⟨k + 1, by omega, by go_num, HB1, HF⟩, by simp [intOf]; omega⟩
      · obtain rfl : k = ws.length := by omega
        have HF : Hid (leastB ws gs s = true) := by
          refine Lib.hid ?_
          unfold leastB
          rw [HH.out, HL.out]; rfl
        go_wp2
        go_ret
        exact ⟨by rw [HF.out]; rfl, HB1.out⟩
  · have K2 := calls_eq K (v' := .bool false) (by simp [hh])
    have HF : Hid (leastB ws gs s = false) := by
      refine Lib.hid ?_
      unfold leastB
      simp [hh]
    clear h1 h2 h3 h4 h5 K v hh
    obtain ⟨hn1, hn2⟩ := hn
    go_enter Try.func29, Try.ntmps29
    go_wp2_with (go_at_call 20; refine K2.out.mono ?_; rintro e w1 ⟨rfl, hb⟩)
    go_ret
    exact ⟨by rw [HF.out]; rfl, hb⟩
end Go.Proofs.Ytfkbknkmanphfaa.Q
