import Derived.Test.YtfkbknkmanphfaaU
namespace Go.Proofs.Ytfkbknkmanphfaa.Q
open Go.RowKit Go.Proofs.YtfkbknkmanphfaaW.PrintWords Go.Sort Go.Deep
set_option linter.unusedVariables false
set_option linter.unusedSimpArgs false
variable {M : Nat}

theorem countsR (r : Nat) (ws gs : List Int) (w : World) (h : RSys M w r ws gs) (n : Int) (hn : -128 ≤ n ∧ n ≤ 127) :
    Calls Try.prog 27 #[.pointer (some ⟨r, 0, none⟩), .int .i8 n] w fun e w' => e = .returned (.bool (countsB ws n)) ∧ w = w' := by
  have K := isR r ws gs w h n hn
  obtain ⟨v, g1, c1, g2, c2, hb, l1, l2, e1, e2⟩ := h
  obtain ⟨b0, b1⟩ := box44 hb
  obtain ⟨n0, n1⟩ := hn
  clear hb e2
  cases hv : validB ws n with
  | false =>
    have K2 := calls_eq K (congrArg Value.bool hv)
    have HF : Hid (countsB ws n = false) := Lib.hid (by
      unfold validB at hv
      unfold countsB
      rw [hv]; rfl)
    clear K hv e1
    go_enter Try.func27, Try.ntmps27
    go_wp2_with fail
    refine K2.out.mono ?_
    rintro e w' ⟨rfl, rfl⟩
    go_wp2
    go_ret
    exact ⟨by rw [HF.out]; rfl, rfl⟩
  | true =>
    have hv2 : 0 ≤ n ∧ n < ws.length := by simpa [validB] using hv
    obtain ⟨m, rfl⟩ := Int.eq_ofNat_of_zero_le hv2.1
    have x0 := e1 m (by omega)
    have K2 := calls_eq K (congrArg Value.bool hv)
    have HF : Hid (countsB ws (m : Int) = decide (0 < ws.getD m 0)) := Lib.hid (by
      unfold countsB
      rw [decide_eq_true hv2.1, decide_eq_true hv2.2]; simp)
    obtain ⟨y, hy⟩ : ∃ y, ws.getD m 0 = y := ⟨_, rfl⟩
    rw [hy] at x0 HF
    clear K hv e1 hy
    go_enter Try.func27, Try.ntmps27
    go_wp2_with fail
    refine K2.out.mono ?_
    rintro e w' ⟨rfl, rfl⟩
    go_wp2
    go_ret
    exact ⟨by rw [HF.out]; rfl, rfl⟩

def partTo (t s : Int) : Nat → Bool
  | 0 => true
  | k + 1 => partTo t s k && (inS s k || !(inS t k))
def sameTo (t s : Int) : Nat → Bool
  | 0 => true
  | k + 1 => sameTo t s k && (inS t k == inS s k)
theorem partTo_iff (t s : Int) (n : Nat) : partTo t s n = true ↔ ∀ i, i < n → inS t i = true → inS s i = true := by
  induction n with
  | zero => simp [partTo]
  | succ n ih =>
    simp only [partTo, Bool.and_eq_true, ih]
    constructor
    · rintro ⟨h1, h2⟩ i hi ht
      by_cases e : i = n
      · subst e; rw [ht] at h2; simpa using h2
      · exact h1 i (by omega) ht
    · intro h
      refine ⟨fun i hi => h i (by omega), ?_⟩
      cases ht : inS t n
      · simp
      · rw [h n (by omega) ht]; rfl
theorem sameTo_iff (t s : Int) (n : Nat) : sameTo t s n = true ↔ ∀ i, i < n → inS t i = inS s i := by
  induction n with
  | zero => simp [sameTo]
  | succ n ih =>
    simp only [sameTo, Bool.and_eq_true, ih, beq_iff_eq]
    constructor
    · rintro ⟨h1, h2⟩ i hi
      by_cases e : i = n
      · subst e; exact h2
      · exact h1 i (by omega)
    · intro h
      exact ⟨fun i hi => h i (by omega), h n (by omega)⟩
def badT (ws gs : List Int) (s t : Int) : Bool := partTo t s ws.length && !(sameTo t s ws.length) && hasB ws gs (inS t)

theorem leastTo_true (ws gs : List Int) (s : Int) (n : Nat) (h : ∀ i, i < n → inS s i = true → hasB ws gs (inS (clr s i)) = false) : leastTo ws gs s n = true := by
  induction n with
  | zero => rfl
  | succ n ih =>
    simp only [leastTo]
    rw [ih (fun i hi => h i (by omega))]
    cases hs : inS s n
    · rfl
    · rw [h n (by omega) hs]; rfl
theorem least_bad {ws gs : List Int} (hv : Valid ws gs) (s t : Int) (h0 : 0 ≤ s) (h1 : s ≤ 255) (hb : badT ws gs s t = true) : leastB ws gs s = false := by
  have h7 := hv.le7
  unfold badT at hb
  simp only [Bool.and_eq_true, Bool.not_eq_true'] at hb
  obtain ⟨⟨hp, hn⟩, hh⟩ := hb
  have hp' := (partTo_iff t s _).1 hp
  have : ∃ i, i < ws.length ∧ inS s i = true ∧ inS t i = false := by
    by_cases hx : ∃ i, i < ws.length ∧ inS s i = true ∧ inS t i = false
    · exact hx
    · have := (sameTo_iff t s ws.length).2 (fun i hi => by
        cases ht : inS t i with
        | true => rw [hp' i hi ht]
        | false =>
          cases hs : inS s i with
          | false => rfl
          | true => exact absurd ⟨i, hi, hs, ht⟩ hx)
      rw [this] at hn
      simp at hn
  obtain ⟨i, hi, hs, ht⟩ := this
  have hc : hasB ws gs (inS (clr s i)) = true := hasB_mono hv _ _ (fun j hj hj2 => by
    rw [clr_in s i j h0 h1 (by omega) (by omega), hp' j hj hj2]
    have : j ≠ i := by rintro rfl; rw [ht] at hj2; simp at hj2
    simp [this]) hh
  unfold leastB
  rw [leastTo_false ws gs s i ws.length hi (by rw [hs, hc]; rfl)]
  simp
theorem low7 (s : Int) (i : Nat) (h0 : 0 ≤ s) (h1 : s ≤ 255) (hi : i < 8) : ∃ t : Nat, t < 128 ∧ ∀ j, j < 7 → inS (t : Int) j = inS (clr s i) j := by
  have b := clr_bd s i h0 h1 hi
  obtain ⟨m, hm⟩ := Int.eq_ofNat_of_zero_le b.1
  refine ⟨m % 128, Nat.mod_lt _ (by decide), fun j hj => ?_⟩
  rw [hm, inS_nat]
  show (m % 128).testBit j = inS (m : Int) j
  rw [inS_nat, show 128 = 2 ^ 7 from rfl, Nat.testBit_mod_two_pow]
  simp [hj]
theorem least_good {ws gs : List Int} (hv : Valid ws gs) (s : Int) (h0 : 0 ≤ s) (h1 : s ≤ 255) (hh : hasB ws gs (inS s) = true) (h : ∀ t : Nat, t < 128 → badT ws gs s t = false) : leastB ws gs s = true := by
  have h7 := hv.le7
  unfold leastB
  rw [hh, leastTo_true ws gs s ws.length (fun i hi hs => ?_)]
  · rfl
  · obtain ⟨t, ht, he⟩ := low7 s i h0 h1 (by omega)
    have hb := h t ht
    rw [← hasB_congr (inS (t : Int)) (inS (clr s i)) (fun j hj => he j (by omega))]
    have p : partTo t s ws.length = true := (partTo_iff _ _ _).2 (fun j hj hj2 => by
      rw [he j (by omega), clr_in s i j h0 h1 (by omega) (by omega)] at hj2
      simp only [Bool.and_eq_true] at hj2
      exact hj2.1)
    have q : sameTo t s ws.length = false := by
      cases hq : sameTo t s ws.length with
      | false => rfl
      | true =>
        have := (sameTo_iff _ _ _).1 hq i hi
        rw [he i (by omega), clr_in s i i h0 h1 (by omega) (by omega), hs] at this
        simp at this
    unfold badT at hb
    rw [p, q] at hb
    simpa using hb

set_option maxRecDepth 100000 in
set_option maxHeartbeats 8000000 in
theorem leastR (r : Nat) (ws gs : List Int) (w : World) (h : RSys M w r ws gs) (s : Int) (hs : 0 ≤ s ∧ s ≤ 255) :
    Calls Try.prog 30 #[.pointer (some ⟨r, 0, none⟩), .int .u8 s] w fun e w' => e = .returned (.bool (leastB ws gs s)) ∧ w = w' := by
  have HR := Lib.hid h
  have HS := Lib.hid hs
  have HV := Lib.hid h.v
  have h7 := h.v.le7
  obtain ⟨v, g1, c1, g2, c2, hb, l1, l2, e1, e2⟩ := h
  obtain ⟨b0, b1⟩ := box44 hb
  clear hb e1 e2 b1 v l1 l2 hs
  have K0 := Lib.hid (hasR r ws gs w HR.out s HS.out)
  cases hh : hasB ws gs (inS s) with
  | false =>
    have HF : Hid (leastB ws gs s = false) := Lib.hid (by unfold leastB; rw [hh]; rfl)
    have K1 := calls_eq K0.out (congrArg Value.bool hh)
    clear hh K0
    go_enter Try.func30, Try.ntmps30
    go_wp2_with fail
    refine K1.out.mono ?_
    rintro e w' ⟨rfl, rfl⟩
    go_wp2
    go_ret
    exact ⟨by rw [HF.out]; rfl, rfl⟩
  | true =>
    have HH := Lib.hid hh
    have K1 := calls_eq K0.out (congrArg Value.bool hh)
    clear hh K0
    go_enter Try.func30, Try.ntmps30
    go_wp2_with fail
    refine K1.out.mono ?_
    rintro e w' ⟨rfl, rfl⟩
    go_wp2_with fail
    go_loop [5] (fun v => ∃ t : Nat, t ≤ 128 ∧ v = .int .i64 t ∧ Hid (∀ u : Nat, u < t → badT ws gs s u = false)) (fun v => 128 - (intOf v).toNat)
    case atStart => exact ⟨0, by omega, rfl, Lib.hid (fun u hu => by omega)⟩
    case round =>
      obtain ⟨t, ht, rfl, HN⟩ := hrel
      by_cases hlt : t < 128
      · go_wp2_with fail
        go_loop [6, 7, 8] (fun a b v => ∃ k : Nat, k ≤ ws.length ∧ v = .int .i64 k ∧ a = .bool (partTo t s k) ∧ b = .bool (sameTo t s k)) (fun _ _ v => ws.length - (intOf v).toNat)
        case atStart => exact ⟨0, by omega, rfl, rfl, rfl⟩
        case round =>
          obtain ⟨k, hk, rfl, rfl, rfl⟩ := hrel
          by_cases hltk : k < ws.length
          · have TP : Hid (partTo t s (k + 1) = (partTo t s k && (inS s k || !(inS t k)))) := rfl
            have TS : Hid (sameTo t s (k + 1) = (sameTo t s k && (inS t k == inS s k))) := rfl
            have KT := Lib.hid (in_calls (t : Int) k (by omega) (by omega) (by omega) w)
            have KS := Lib.hid (in_calls s k HS.out.1 HS.out.2 (by omega) w)
            obtain ⟨x1, hx1⟩ : ∃ x, partTo t s k = x := ⟨_, rfl⟩
            obtain ⟨x2, hx2⟩ : ∃ x, sameTo t s k = x := ⟨_, rfl⟩
            obtain ⟨x3, hx3⟩ : ∃ x, inS t k = x := ⟨_, rfl⟩
            obtain ⟨x4, hx4⟩ : ∃ x, inS s k = x := ⟨_, rfl⟩
            rw [hx1, hx4, hx3] at TP
            rw [hx2, hx4, hx3] at TS
            rw [hx3] at KT
            rw [hx4] at KS
            rw [hx1, hx2]
            clear hx1 hx2 hx3 hx4
            go_wp2_with fail
            refine KT.out.mono ?_
            rintro e w' ⟨rfl, rfl⟩
            go_wp2_with fail
            refine KS.out.mono ?_
            rintro e w' ⟨rfl, rfl⟩
            cases x1 <;> cases x2 <;> cases x3 <;> cases x4 <;> (go_wp2; exact ⟨⟨k + 1, by omega, by go_num, by rw [TP.out]; rfl, by rw [TS.out]; rfl⟩, by simp [intOf]; omega⟩)
          · obtain rfl : k = ws.length := by omega
            have HB : Hid (badT ws gs s t = (partTo t s ws.length && !(sameTo t s ws.length) && hasB ws gs (inS t))) := Lib.hid rfl
            have KH := Lib.hid (hasR r ws gs w HR.out (t : Int) (by omega))
            obtain ⟨x1, hx1⟩ : ∃ x, partTo t s ws.length = x := ⟨_, rfl⟩
            obtain ⟨x2, hx2⟩ : ∃ x, sameTo t s ws.length = x := ⟨_, rfl⟩
            obtain ⟨x3, hx3⟩ : ∃ x, hasB ws gs (inS (t : Int)) = x := ⟨_, rfl⟩
            rw [hx1, hx2, hx3] at HB
            rw [hx3] at KH
            rw [hx1, hx2]
            clear hx1 hx2 hx3
            have HBAD : Hid (badT ws gs s t = true → leastB ws gs s = false) := Lib.hid (least_bad HV.out s t HS.out.1 HS.out.2)
            have HNX : Hid (badT ws gs s t = false → ∀ u : Nat, u < t + 1 → badT ws gs s u = false) := Lib.hid (fun hb u hu => by
              by_cases e : u = t
              · subst e; exact hb
              · exact HN.out u (by omega))
            cases x1 with
            | false =>
              have HQ := Lib.hid (HNX.out (by rw [HB.out]; rfl))
              go_wp2
              exact ⟨⟨t + 1, by omega, by go_num, HQ⟩, by simp [intOf]; omega⟩
            | true =>
              cases x2 with
              | true =>
                have HQ := Lib.hid (HNX.out (by rw [HB.out]; rfl))
                go_wp2
                exact ⟨⟨t + 1, by omega, by go_num, HQ⟩, by simp [intOf]; omega⟩
              | false =>
                go_wp2_with fail
                refine KH.out.mono ?_
                rintro e w' ⟨rfl, rfl⟩
                cases x3 with
                | true =>
                  have HQ := Lib.hid (HBAD.out (by rw [HB.out]; rfl))
                  go_wp2
                  go_ret
                  exact ⟨by rw [HQ.out]; rfl, rfl⟩
                | false =>
                  have HQ := Lib.hid (HNX.out (by rw [HB.out]; rfl))
                  go_wp2
                  exact ⟨⟨t + 1, by omega, by go_num, HQ⟩, by simp [intOf]; omega⟩
      · obtain rfl : t = 128 := by omega
        have HF := Lib.hid (least_good HV.out s HS.out.1 HS.out.2 HH.out HN.out)
        go_wp2
        go_ret
        exact ⟨by rw [HF.out]; rfl, rfl⟩
end Go.Proofs.Ytfkbknkmanphfaa.Q
