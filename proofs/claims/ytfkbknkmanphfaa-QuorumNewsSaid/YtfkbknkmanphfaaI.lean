import Derived.Test.YtfkbknkmanphfaaG
import Derived.Test.YtfkbknkmanphfaaH
namespace Go.Proofs.Ytfkbknkmanphfaa.Q
open Go.RowKit Go.Proofs.YtfkbknkmanphfaaW.PrintWords Go.Sort
set_option linter.unusedVariables false
set_option linter.unusedSimpArgs false

theorem Rd.below {w w' : World} {A : Option Addr} {xs : List Int} (h : Rd w A xs) (hB : Below w.heap.size w w') : Rd w' A xs :=
  ⟨h.1, fun hp => by obtain ⟨a, ha, hc⟩ := h.2 hp; exact ⟨a, ha, fun i hi => pw_cell_below hB (hc i hi)⟩⟩
theorem new_calls (Aw Ag : Option Addr) (cw cg : Nat) (ws gs : List Int) (w : World) (hw : Rd w Aw ws) (hg : Rd w Ag gs) :
    Calls Try.prog 9 #[.slice Aw ws.length cw, .slice Ag gs.length cg] w (NewPost w ws gs) := by
  by_cases hl : 1 ≤ ws.length ∧ ws.length ≤ 7 ∧ gs.length = ws.length
  · obtain ⟨h1, h7, he⟩ := hl
    obtain ⟨aw, rfl, hw2⟩ := hw.2 (by omega)
    obtain ⟨ag, rfl, hg2⟩ := hg.2 (by omega)
    rw [he]
    exact new_ok aw ag cw cg ws gs w hw2 (fun i hi => hg2 i (by omega)) h1 h7 he
  · exact new_len Aw Ag cw cg ws gs w hw hg hl

set_option maxRecDepth 100000 in
set_option maxHeartbeats 8000000 in
theorem meets_long (Aw Ag : Option Addr) (cw cg : Nat) (ws gs : List Int) (a b : Int) (w : World) (h1 : ws.length ≤ 9223372036854775807) (h2 : gs.length ≤ 9223372036854775807) (h : 2147483647 ≤ ws.length ∨ 2147483647 ≤ gs.length) :
    Calls Try.prog 6 #[.agg #[.slice Aw ws.length cw, .slice Ag gs.length cg, .int .u8 a, .int .u8 b]] w fun e w' => e = .returned (.bool true) ∧ Below w.heap.size w w' := by
  by_cases c : 2147483647 ≤ ws.length
  · go_enter Try.func6, Try.ntmps6
    go_wp2_with fail
    refine (long_calls' _ (by omega) _).mono ?_
    rintro e wx ⟨rfl, rfl⟩
    go_wp2
    go_ret
    exact ⟨rfl, below_alloc (Below.refl _ _) _⟩
  · go_enter Try.func6, Try.ntmps6
    go_wp2_with fail
    refine (long_calls _ (by omega) _).mono ?_
    rintro e wx ⟨rfl, rfl⟩
    go_wp2_with fail
    refine (long_calls' _ (by omega) _).mono ?_
    rintro e wx ⟨rfl, rfl⟩
    go_wp2
    go_ret
    exact ⟨rfl, below_alloc (Below.refl _ _) _⟩

set_option maxRecDepth 100000 in
set_option maxHeartbeats 8000000 in
theorem meets_no (Aw Ag : Option Addr) (cw cg : Nat) (ws gs : List Int) (a b : Int) (w : World) (hw : Rd w Aw ws) (hg : Rd w Ag gs) (h1 : ws.length < 2147483647) (h2 : gs.length < 2147483647) (hv : ¬ Valid ws gs) :
    Calls Try.prog 6 #[.agg #[.slice Aw ws.length cw, .slice Ag gs.length cg, .int .u8 a, .int .u8 b]] w fun e w' => e = .returned (.bool true) ∧ Below w.heap.size w w' := by
  have HB := Lib.hid (below_alloc (Below.refl w.heap.size w) (Obj.cells #[.slice Aw ws.length cw, .slice Ag gs.length cg, .int .u8 a, .int .u8 b] 60))
  have HW := Lib.hid hw
  have HG := Lib.hid hg
  have HV := Lib.hid hv
  clear hw hg hv
  go_enter Try.func6, Try.ntmps6
  go_wp2_with fail
  refine (long_calls _ (by omega) _).mono ?_
  rintro e wx ⟨rfl, rfl⟩
  go_wp2_with fail
  refine (long_calls _ (by omega) _).mono ?_
  rintro e wx ⟨rfl, rfl⟩
  go_wp2_with fail
  refine (lives_calls _).mono ?_
  rintro e w1 ⟨rfl, hB⟩
  replace HB := Lib.hid (below_then HB.out HB.out.size hB)
  clear hB
  go_wp2_with fail
  refine (new_calls Aw Ag cw cg ws gs _ (HW.out.below HB.out) (HG.out.below HB.out)).mono ?_
  rintro e wn ⟨hB, ⟨hv, _⟩ | ⟨_, rfl⟩⟩
  · exact absurd hv HV.out
  · replace HB := Lib.hid (below_then HB.out HB.out.size hB)
    clear hB
    go_wp2
    go_ret
    exact ⟨rfl, HB.out⟩

set_option maxRecDepth 100000 in
set_option maxHeartbeats 8000000 in
theorem meets_yes (Aw Ag : Option Addr) (cw cg : Nat) (ws gs : List Int) (a b : Int) (w : World) (hw : Rd w Aw ws) (hg : Rd w Ag gs) (h1 : ws.length < 2147483647) (h2 : gs.length < 2147483647) (hv : Valid ws gs) (ha : 0 ≤ a ∧ a ≤ 255) (hb : 0 ≤ b ∧ b ≤ 255) :
    Calls Try.prog 6 #[.agg #[.slice Aw ws.length cw, .slice Ag gs.length cg, .int .u8 a, .int .u8 b]] w fun e w' => e = .returned (.bool true) ∧ Below w.heap.size w w' := by
  have HB := Lib.hid (below_alloc (Below.refl w.heap.size w) (Obj.cells #[.slice Aw ws.length cw, .slice Ag gs.length cg, .int .u8 a, .int .u8 b] 60))
  have HW := Lib.hid hw
  have HG := Lib.hid hg
  have HV := Lib.hid hv
  have HA := Lib.hid ha
  have HBB := Lib.hid hb
  have h127 : Hid (hasB ws gs (inS 127) = true) := Lib.hid (by rw [← hasB_all hv]; exact hasB_congr _ _ (fun i hi => by rw [inS_127 i (by have := hv.le7; omega)]))
  have h0 : Hid (hasB ws gs (inS 0) = false) := Lib.hid (by rw [← hasB_none hv]; exact hasB_congr _ _ (fun i hi => inS_0 i))
  have hor : Hid (hasB ws gs (inS a) = true → hasB ws gs (inS (bits .or .u8 a b)) = true) := Lib.hid (fun h => hasB_mono hv _ _ (fun i hi hi2 => by rw [inS_or a b ha.1 ha.2 hb.1 hb.2, hi2]; rfl) h)
  have hob : Hid (0 ≤ bits .or .u8 a b ∧ bits .or .u8 a b ≤ 255) := Lib.hid ⟨bits_lo_u8 _ _ _, bits_hi_u8 _ _ _⟩
  have hmt : Hid (hasB ws gs (inS a) = true → hasB ws gs (inS b) = true → commonTo ws a b 7 = true) := Lib.hid (fun x y => by
    obtain ⟨i, hi, r1, r2, r3⟩ := quorums_meet hv _ _ x y
    have := hv.le7
    exact commonTo_true ws a b i 7 (by omega) (by rw [r1, r2]; simp [countsB, hi, r3]; simpa [List.getD_eq_getElem?_getD, hi] using r3))
  have hla : Hid (hasB ws gs (inS a) = true → laTo ws gs a 128 = true) := Lib.hid (fun x => by
    obtain ⟨n, hn⟩ := Int.eq_ofNat_of_zero_le ha.1
    subst hn
    obtain ⟨t, ht, p, l⟩ := least_exists hv n (by omega) x
    exact laTo_true ws gs n t 128 ht (by rw [p, l]; rfl))
  clear hw hg hv ha hb
  go_enter Try.func6, Try.ntmps6
  go_wp2_with fail
  refine (long_calls _ (by omega) _).mono ?_
  rintro e wx ⟨rfl, rfl⟩
  go_wp2_with fail
  refine (long_calls _ (by omega) _).mono ?_
  rintro e wx ⟨rfl, rfl⟩
  go_wp2_with fail
  refine (lives_calls _).mono ?_
  rintro e w2 ⟨rfl, hB⟩
  replace HB := Lib.hid (below_then HB.out HB.out.size hB)
  clear hB
  go_wp2_with fail
  refine (new_calls Aw Ag cw cg ws gs _ (HW.out.below HB.out) (HG.out.below HB.out)).mono ?_
  rintro e wn ⟨hB, ⟨_, q, rfl, _, hs⟩ | ⟨hv, _⟩⟩
  rotate_left
  · exact absurd HV.out hv
  replace HB := Lib.hid (below_then HB.out HB.out.size hB)
  have HS := Lib.hid hs
  clear hB hs
  cases ea : hasB ws gs (inS a) with
  | false =>
    have EA := Lib.hid ea
    have EL : Hid (leastB ws gs a = false) := Lib.hid (by unfold leastB; rw [ea]; rfl)
    clear ea
    go_wp2_with fail
    refine ((calls_eq (has_sys q ws gs _ HS.out (a) HA.out) (congrArg Value.bool (EA.out))).out).mono ?_
    rintro e w3 ⟨rfl, hB⟩
    replace HS := Lib.hid (HS.out.below hB)
    replace HB := Lib.hid (below_then HB.out HB.out.size hB)
    clear hB
    go_wp2_with fail
    refine ((calls_eq (has_sys q ws gs _ HS.out (a) HA.out) (congrArg Value.bool (EA.out))).out).mono ?_
    rintro e w4 ⟨rfl, hB⟩
    replace HS := Lib.hid (HS.out.below hB)
    replace HB := Lib.hid (below_then HB.out HB.out.size hB)
    clear hB
    go_wp2_with fail
    refine ((calls_eq (has_sys q ws gs _ HS.out (127) (by omega)) (congrArg Value.bool (h127.out))).out).mono ?_
    rintro e w5 ⟨rfl, hB⟩
    replace HS := Lib.hid (HS.out.below hB)
    replace HB := Lib.hid (below_then HB.out HB.out.size hB)
    clear hB
    go_wp2_with fail
    refine ((calls_eq (has_sys q ws gs _ HS.out (0) (by omega)) (congrArg Value.bool (h0.out))).out).mono ?_
    rintro e w6 ⟨rfl, hB⟩
    replace HS := Lib.hid (HS.out.below hB)
    replace HB := Lib.hid (below_then HB.out HB.out.size hB)
    clear hB
    go_wp2_with fail
    refine ((calls_eq (has_sys q ws gs _ HS.out (a) HA.out) (congrArg Value.bool (EA.out))).out).mono ?_
    rintro e w7 ⟨rfl, hB⟩
    replace HS := Lib.hid (HS.out.below hB)
    replace HB := Lib.hid (below_then HB.out HB.out.size hB)
    clear hB
    go_wp2_with fail
    refine ((calls_eq (least_sys q ws gs _ HS.out (a) HA.out) (congrArg Value.bool (EL.out))).out).mono ?_
    rintro e w8 ⟨rfl, hB⟩
    replace HS := Lib.hid (HS.out.below hB)
    replace HB := Lib.hid (below_then HB.out HB.out.size hB)
    clear hB
    go_wp2
    go_ret
    exact ⟨rfl, HB.out⟩
  | true =>
    have EA := Lib.hid ea
    have EO := Lib.hid (hor.out ea)
    have EL := Lib.hid (hla.out ea)
    have EC : Hid (hasB ws gs (inS b) = true → commonTo ws a b 7 = true) := Lib.hid (hmt.out ea)
    clear ea hor hla hmt
    cases eb : hasB ws gs (inS b) with
    | false =>
      have EB := Lib.hid eb
      clear eb EC
      go_wp2_with fail
      refine ((calls_eq (has_sys q ws gs _ HS.out (a) HA.out) (congrArg Value.bool (EA.out))).out).mono ?_
      rintro e w9 ⟨rfl, hB⟩
      replace HS := Lib.hid (HS.out.below hB)
      replace HB := Lib.hid (below_then HB.out HB.out.size hB)
      clear hB
      go_wp2_with fail
      refine ((calls_eq (has_sys q ws gs _ HS.out (b) HBB.out) (congrArg Value.bool (EB.out))).out).mono ?_
      rintro e w10 ⟨rfl, hB⟩
      replace HS := Lib.hid (HS.out.below hB)
      replace HB := Lib.hid (below_then HB.out HB.out.size hB)
      clear hB
      go_wp2_with fail
      refine ((calls_eq (has_sys q ws gs _ HS.out (a) HA.out) (congrArg Value.bool (EA.out))).out).mono ?_
      rintro e w11 ⟨rfl, hB⟩
      replace HS := Lib.hid (HS.out.below hB)
      replace HB := Lib.hid (below_then HB.out HB.out.size hB)
      clear hB
      go_wp2_with fail
      refine ((calls_eq (has_sys q ws gs _ HS.out (bits .or .u8 a b) hob.out) (congrArg Value.bool (EO.out))).out).mono ?_
      rintro e w12 ⟨rfl, hB⟩
      replace HS := Lib.hid (HS.out.below hB)
      replace HB := Lib.hid (below_then HB.out HB.out.size hB)
      clear hB
      go_wp2_with fail
      refine ((calls_eq (has_sys q ws gs _ HS.out (127) (by omega)) (congrArg Value.bool (h127.out))).out).mono ?_
      rintro e w13 ⟨rfl, hB⟩
      replace HS := Lib.hid (HS.out.below hB)
      replace HB := Lib.hid (below_then HB.out HB.out.size hB)
      clear hB
      go_wp2_with fail
      refine ((calls_eq (has_sys q ws gs _ HS.out (0) (by omega)) (congrArg Value.bool (h0.out))).out).mono ?_
      rintro e w14 ⟨rfl, hB⟩
      replace HS := Lib.hid (HS.out.below hB)
      replace HB := Lib.hid (below_then HB.out HB.out.size hB)
      clear hB
      go_wp2_with fail
      refine ((calls_eq (has_sys q ws gs _ HS.out (a) HA.out) (congrArg Value.bool (EA.out))).out).mono ?_
      rintro e w15 ⟨rfl, hB⟩
      replace HS := Lib.hid (HS.out.below hB)
      replace HB := Lib.hid (below_then HB.out HB.out.size hB)
      clear hB
      go_wp2_with fail
      go_loopw [10, 11] (fun l t wr => ∃ k : Nat, k ≤ 128 ∧ t = .int .i64 k ∧ l = .bool (laTo ws gs a k) ∧ Hid (Sys wr q ws gs) ∧ Hid (Below w.heap.size w wr)) (fun _ t _ => 128 - (intOf t).toNat)
      case atStart => exact ⟨0, by omega, rfl, rfl, HS, HB⟩
      case round =>
        clear HS HB
        obtain ⟨k, hk, rfl, rfl, HS, HB⟩ := hrel
        by_cases hlt : k < 128
        · have HT : Hid (laTo ws gs a (k + 1) = (laTo ws gs a k || (partB (k : Int) a && leastB ws gs (k : Int)))) := rfl
          have HP : Hid (partB (k : Int) a = (bits .and .u8 (k : Int) a == (k : Int))) := Lib.hid rfl
          have KL := Lib.hid (least_sys q ws gs wr HS.out k (by omega))
          obtain ⟨la, hla⟩ : ∃ x, laTo ws gs a k = x := ⟨_, rfl⟩
          rw [hla] at HT ⊢
          clear hla
          cases la with
          | true =>
            go_wp2
            exact ⟨⟨k + 1, by omega, by go_num, by rw [HT.out]; rfl, HS, HB⟩, by simp [intOf]; omega⟩
          | false =>
            cases hp : (bits .and .u8 (k : Int) a == (k : Int)) with
            | true =>
              go_wp2_with (go_at_call 29; refine KL.out.mono ?_; rintro e wl ⟨rfl, hB⟩; replace HS := Lib.hid (HS.out.below hB); replace HB := Lib.hid (below_then HB.out HB.out.size hB); clear hB)
              exact ⟨⟨k + 1, by omega, by go_num, by rw [HT.out, HP.out, hp]; rfl, HS, HB⟩, by simp [intOf]; omega⟩
            | false =>
              go_wp2
              exact ⟨⟨k + 1, by omega, by go_num, by rw [HT.out, HP.out, hp]; rfl, HS, HB⟩, by simp [intOf]; omega⟩
        · obtain rfl : k = 128 := by omega
          rw [EL.out]
          go_wp2
          go_ret
          exact ⟨rfl, HB.out⟩
    | true =>
      have EB := Lib.hid eb
      have EM := Lib.hid (EC.out eb)
      clear eb EC
      go_wp2_with fail
      refine ((calls_eq (has_sys q ws gs _ HS.out (a) HA.out) (congrArg Value.bool (EA.out))).out).mono ?_
      rintro e w16 ⟨rfl, hB⟩
      replace HS := Lib.hid (HS.out.below hB)
      replace HB := Lib.hid (below_then HB.out HB.out.size hB)
      clear hB
      go_wp2_with fail
      refine ((calls_eq (has_sys q ws gs _ HS.out (b) HBB.out) (congrArg Value.bool (EB.out))).out).mono ?_
      rintro e w17 ⟨rfl, hB⟩
      replace HS := Lib.hid (HS.out.below hB)
      replace HB := Lib.hid (below_then HB.out HB.out.size hB)
      clear hB
      go_wp2_with fail
      refine ((calls_eq (common_sys q ws gs _ HS.out a b HA.out HBB.out) (congrArg Value.bool EM.out)).out).mono ?_
      rintro e wx ⟨rfl, rfl⟩
      go_wp2_with fail
      refine ((calls_eq (has_sys q ws gs _ HS.out (a) HA.out) (congrArg Value.bool (EA.out))).out).mono ?_
      rintro e w41 ⟨rfl, hB⟩
      replace HS := Lib.hid (HS.out.below hB)
      replace HB := Lib.hid (below_then HB.out HB.out.size hB)
      clear hB
      go_wp2_with fail
      refine ((calls_eq (has_sys q ws gs _ HS.out (bits .or .u8 a b) hob.out) (congrArg Value.bool (EO.out))).out).mono ?_
      rintro e w42 ⟨rfl, hB⟩
      replace HS := Lib.hid (HS.out.below hB)
      replace HB := Lib.hid (below_then HB.out HB.out.size hB)
      clear hB
      go_wp2_with fail
      refine ((calls_eq (has_sys q ws gs _ HS.out (127) (by omega)) (congrArg Value.bool (h127.out))).out).mono ?_
      rintro e w43 ⟨rfl, hB⟩
      replace HS := Lib.hid (HS.out.below hB)
      replace HB := Lib.hid (below_then HB.out HB.out.size hB)
      clear hB
      go_wp2_with fail
      refine ((calls_eq (has_sys q ws gs _ HS.out (0) (by omega)) (congrArg Value.bool (h0.out))).out).mono ?_
      rintro e w44 ⟨rfl, hB⟩
      replace HS := Lib.hid (HS.out.below hB)
      replace HB := Lib.hid (below_then HB.out HB.out.size hB)
      clear hB
      go_wp2_with fail
      refine ((calls_eq (has_sys q ws gs _ HS.out (a) HA.out) (congrArg Value.bool (EA.out))).out).mono ?_
      rintro e w45 ⟨rfl, hB⟩
      replace HS := Lib.hid (HS.out.below hB)
      replace HB := Lib.hid (below_then HB.out HB.out.size hB)
      clear hB
      go_wp2_with fail
      go_loopw [10, 11] (fun l t wr => ∃ k : Nat, k ≤ 128 ∧ t = .int .i64 k ∧ l = .bool (laTo ws gs a k) ∧ Hid (Sys wr q ws gs) ∧ Hid (Below w.heap.size w wr)) (fun _ t _ => 128 - (intOf t).toNat)
      case atStart => exact ⟨0, by omega, rfl, rfl, HS, HB⟩
      case round =>
        clear HS HB
        obtain ⟨k, hk, rfl, rfl, HS, HB⟩ := hrel
        by_cases hlt : k < 128
        · have HT : Hid (laTo ws gs a (k + 1) = (laTo ws gs a k || (partB (k : Int) a && leastB ws gs (k : Int)))) := rfl
          have HP : Hid (partB (k : Int) a = (bits .and .u8 (k : Int) a == (k : Int))) := Lib.hid rfl
          have KL := Lib.hid (least_sys q ws gs wr HS.out k (by omega))
          obtain ⟨la, hla⟩ : ∃ x, laTo ws gs a k = x := ⟨_, rfl⟩
          rw [hla] at HT ⊢
          clear hla
          cases la with
          | true =>
            go_wp2
            exact ⟨⟨k + 1, by omega, by go_num, by rw [HT.out]; rfl, HS, HB⟩, by simp [intOf]; omega⟩
          | false =>
            cases hp : (bits .and .u8 (k : Int) a == (k : Int)) with
            | true =>
              go_wp2_with (go_at_call 29; refine KL.out.mono ?_; rintro e wl ⟨rfl, hB⟩; replace HS := Lib.hid (HS.out.below hB); replace HB := Lib.hid (below_then HB.out HB.out.size hB); clear hB)
              exact ⟨⟨k + 1, by omega, by go_num, by rw [HT.out, HP.out, hp]; rfl, HS, HB⟩, by simp [intOf]; omega⟩
            | false =>
              go_wp2
              exact ⟨⟨k + 1, by omega, by go_num, by rw [HT.out, HP.out, hp]; rfl, HS, HB⟩, by simp [intOf]; omega⟩
        · obtain rfl : k = 128 := by omega
          rw [EL.out]
          go_wp2
          go_ret
          exact ⟨rfl, HB.out⟩
end Go.Proofs.Ytfkbknkmanphfaa.Q
