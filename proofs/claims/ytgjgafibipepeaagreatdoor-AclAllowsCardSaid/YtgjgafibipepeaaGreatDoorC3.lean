import Derived.Test.YtgjgafibipepeaaGreatDoorC1
import Derived.Test.YtgjgafibipepeaaGreatDoorB7
import Derived.Test.YtgjgafibipepeaaGreatDoorC2
namespace Go.Proofs.YtgjgafibipepeaaGreatDoor.Q
open Go.RowKit Go.Proofs.YtgjgafibipepeaaGreatDoorW.PrintWords Go.Deep Go.Maps Go.WideShapes Go.Lib
open Go.Proofs.YtgjgafibipepeaaGreatDoor.Pr (S39 S41 k39 k41 z39 z41 rd_T39 rd_T41)
open Go.Proofs.YtgjgafibipepeaaGreatDoor
set_option linter.unusedVariables false
set_option linter.unusedSimpArgs false
attribute [local go_sem] Oper.semAt_some
theorem eqIds_self (l : List S39) (hl : l.length ≤ 4294967296) : ∃ k, Pr.lagoonref00_EqIds.f k l l = some true := by
  have go : ∀ d i k, i + d = l.length → d < k → Pr.lagoonref00_EqIds.l0 k l l (i : Int) = some true := by
    intro d
    induction d with
    | zero =>
      intro i k hi hk
      obtain ⟨k, rfl⟩ : ∃ m, k = m + 1 := ⟨k - 1, by omega⟩
      rw [Pr.lagoonref00_EqIds.l0, if_neg (by omega)]
    | succ d ih =>
      intro i k hi hk
      obtain ⟨k, rfl⟩ : ∃ m, k = m + 1 := ⟨k - 1, by omega⟩
      rw [Pr.lagoonref00_EqIds.l0, if_pos (by omega), if_pos (by omega), if_pos (by omega), if_neg (by simp), w64 (by omega) (by omega)]
      exact ih (i + 1) k (by omega) (by omega)
  exact ⟨l.length + 1, by unfold Pr.lagoonref00_EqIds.f; rw [if_pos rfl]; exact go l.length 0 _ (by omega) (by omega)⟩
/-- a list that stands at the head of another one -/
theorem takeC {α : Type} {d : Kd α} {w : World} {A : Option Addr} {l l' : List α} (hle : l.length ≤ l'.length) (hp : l'.take l.length = l) (h : Kd.C d w A l'.length l') : Kd.C d w A l.length l := by
  refine ⟨rfl, by have := h.2.1; omega, fun h0 => ?_⟩
  obtain ⟨ad, e, hc⟩ := h.2.2 (by omega)
  refine ⟨ad, e, fun j p hj => hc j p ?_⟩
  rw [← hp, List.getElem?_take] at hj
  split at hj
  · exact hj
  · cases hj
/-! ARE THE MARKS THERE? -/
set_option maxRecDepth 100000 in
set_option maxHeartbeats 4000000 in
theorem spareE_calls (a : Addr) (cap : Nat) (l : List S41) (w : World) (hr : Kd.C k41 w (some a) (l.length + 64) (wideE l)) (hc : l.length + 64 ≤ cap) (hl : l.length ≤ 2147483648) (hE : Env w) :
    Calls Tryz.prog 14 #[.slice (some a) l.length cap] w fun e w' => e = .returned (.bool true) ∧ Below w.heap.size w w' := by
  have HR := Lib.hid hr
  have HE := Lib.hid hE
  obtain ⟨N, hN⟩ : ∃ N, l.length = N := ⟨_, rfl⟩
  obtain ⟨M, hM⟩ : ∃ M, N + 64 = M := ⟨_, rfl⟩
  rw [hN] at hc hl ⊢
  have HN := Lib.hid hN
  have HM := Lib.hid hM
  have n0 : (0 : Int) ≤ (N : Int) + 64 := by omega
  have n1 : (N : Int) + 64 ≤ (cap : Int) := by omega
  have n2 : ((N : Int) + 64).toNat = M := by omega
  have hM2 : M ≤ 2147483712 := by omega
  have hNM : N ≤ M := by omega
  clear hr hE hN hM hc
  go_enter Tryz.func14, Tryz.ntmps14
  go_wp2_with fail
  go_loopw [4] (fun vi wr => ∃ x : Int, vi = .int .i64 x ∧ (N : Int) ≤ x ∧ x ≤ (M : Int) ∧ Hid (Below w.heap.size w wr)) (fun vi _ => ((M : Int) - intOf vi).toNat)
  case atStart => exact ⟨N, rfl, by omega, by omega, Lib.hid (Below.refl _ _)⟩
  case round =>
  obtain ⟨x, rfl, q0, hi, HB⟩ := hrel
  by_cases c2 : x < (M : Int)
  · have q2 : decide (x < (M : Int)) = true := decide_eq_true c2
    have x0 : 0 ≤ x := by omega
    have hr2 := HR.out
    obtain ⟨ad, eA, hx0, hx1, hx2⟩ := Pr.at_T41 hr2 x x0 (by have := HN.out; have := HM.out; omega)
    cases eA
    have hel : rd_T41 (wideE l) x = markE x := by
      have h0 : x.toNat < (wideE l).length := by rw [wideE_len, HN.out]; have := HM.out; omega
      have h1 := wideE_ge l (i := x.toNat) (by rw [HN.out]; omega) (by rw [HN.out]; have := HM.out; omega)
      have h2 : ((x.toNat : Nat) : Int) = x := by omega
      rw [h2] at h1
      rw [← h1]
      simp [rd_T41, List.getD, List.getElem?_eq_getElem h0]
    rw [hel] at hx2
    replace hx2 := pw_cell_below HB.out hx2
    rw [show (markE x).f1.f1 = markB (-3000000 - x) from rfl] at hx2
    have k1 : ∀ dd os, Calls Tryz.prog 26 #[.int .i64 (-3000000 - x)] (Go.Sort.grow (redrawn wr dd) os) fun e w'' => e = .returned (.string (markB (-3000000 - x))) ∧ ∃ p : Regrown, w'' = Go.Sort.grow (redrawn wr p.d) p.os := fun dd os => Calls.regrown_of (mark_calls (-3000000 - x) _ (by omega) (by omega) ((HE.out.below HB.out).below (below_regrown wr dd os)))
    obtain ⟨nm, hnm⟩ : ∃ b, markB (-3000000 - x) = b := ⟨_, rfl⟩
    rw [hnm] at hx2 k1
    have y2 := cell_regrown hx2
    have x0' := eq_true x0
    have c2' := eq_true c2
    clear hr2 hx0 hx1 hx2 hnm hel
    go_wp2_with fail
    refine wp_region_quiet_below (by kernel_rfl) (by kernel_rfl) ?_
    repeat (go_big_quiet_step (first | (with_reducible exact k1 _ _)))
    refine wpQuiet_nil ?_
    intro _ hw'
    obtain ⟨⟨dq, osq⟩, hw''⟩ := hw'
    subst hw''
    have HB7 := Lib.hid (below_step HB.out (below_regrown wr dq osq))
    obtain ⟨W7, hW7⟩ : ∃ V, Go.Sort.grow (redrawn wr dq) osq = V := ⟨_, rfl⟩
    rw [hW7] at HB7
    simp only [hW7]
    clear y2 k1 hW7 HB
    go_wp2
    exact ⟨⟨x + 1, rfl, by omega, by omega, HB7⟩, by simp [intOf]; omega⟩
  · have q2 : decide (x < (M : Int)) = false := decide_eq_false c2
    go_wp2
    go_ret
    exact ⟨rfl, HB.out⟩
set_option maxRecDepth 100000 in
set_option maxHeartbeats 4000000 in
theorem spareI_calls (a : Addr) (cap : Nat) (l : List S39) (w : World) (hr : Kd.C k39 w (some a) (l.length + 64) (wideI l)) (hc : l.length + 64 ≤ cap) (hl : l.length ≤ 2147483648) (hE : Env w) :
    Calls Tryz.prog 16 #[.slice (some a) l.length cap] w fun e w' => e = .returned (.bool true) ∧ Below w.heap.size w w' := by
  have HR := Lib.hid hr
  have HE := Lib.hid hE
  obtain ⟨N, hN⟩ : ∃ N, l.length = N := ⟨_, rfl⟩
  obtain ⟨M, hM⟩ : ∃ M, N + 64 = M := ⟨_, rfl⟩
  rw [hN] at hc hl ⊢
  have HN := Lib.hid hN
  have HM := Lib.hid hM
  have n0 : (0 : Int) ≤ (N : Int) + 64 := by omega
  have n1 : (N : Int) + 64 ≤ (cap : Int) := by omega
  have n2 : ((N : Int) + 64).toNat = M := by omega
  have hM2 : M ≤ 2147483712 := by omega
  have hNM : N ≤ M := by omega
  clear hr hE hN hM hc
  go_enter Tryz.func16, Tryz.ntmps16
  go_wp2_with fail
  go_loopw [4] (fun vi wr => ∃ x : Int, vi = .int .i64 x ∧ (N : Int) ≤ x ∧ x ≤ (M : Int) ∧ Hid (Below w.heap.size w wr)) (fun vi _ => ((M : Int) - intOf vi).toNat)
  case atStart => exact ⟨N, rfl, by omega, by omega, Lib.hid (Below.refl _ _)⟩
  case round =>
  obtain ⟨x, rfl, q0, hi, HB⟩ := hrel
  by_cases c2 : x < (M : Int)
  · have q2 : decide (x < (M : Int)) = true := decide_eq_true c2
    have x0 : 0 ≤ x := by omega
    have hr2 := HR.out
    obtain ⟨ad, eA, hx0, hx2⟩ := Pr.at_T39 hr2 x x0 (by have := HN.out; have := HM.out; omega)
    cases eA
    have hel : rd_T39 (wideI l) x = markI x := by
      have h0 : x.toNat < (wideI l).length := by rw [wideI_len, HN.out]; have := HM.out; omega
      have h1 := wideI_ge l (i := x.toNat) (by rw [HN.out]; omega) (by rw [HN.out]; have := HM.out; omega)
      have h2 : ((x.toNat : Nat) : Int) = x := by omega
      rw [h2] at h1
      rw [← h1]
      simp [rd_T39, List.getD, List.getElem?_eq_getElem h0]
    rw [hel] at hx2
    replace hx2 := pw_cell_below HB.out hx2
    rw [show (markI x).f1 = markB (-3000000 - x) from rfl] at hx2
    have k1 : ∀ dd os, Calls Tryz.prog 26 #[.int .i64 (-3000000 - x)] (Go.Sort.grow (redrawn wr dd) os) fun e w'' => e = .returned (.string (markB (-3000000 - x))) ∧ ∃ p : Regrown, w'' = Go.Sort.grow (redrawn wr p.d) p.os := fun dd os => Calls.regrown_of (mark_calls (-3000000 - x) _ (by omega) (by omega) ((HE.out.below HB.out).below (below_regrown wr dd os)))
    obtain ⟨nm, hnm⟩ : ∃ b, markB (-3000000 - x) = b := ⟨_, rfl⟩
    rw [hnm] at hx2 k1
    have y2 := cell_regrown hx2
    have x0' := eq_true x0
    have c2' := eq_true c2
    clear hr2 hx0 hx2 hnm hel
    go_wp2_with fail
    refine wp_region_quiet_below (by kernel_rfl) (by kernel_rfl) ?_
    repeat (go_big_quiet_step (first | (with_reducible exact k1 _ _)))
    refine wpQuiet_nil ?_
    intro _ hw'
    obtain ⟨⟨dq, osq⟩, hw''⟩ := hw'
    subst hw''
    have HB7 := Lib.hid (below_step HB.out (below_regrown wr dq osq))
    obtain ⟨W7, hW7⟩ : ∃ V, Go.Sort.grow (redrawn wr dq) osq = V := ⟨_, rfl⟩
    rw [hW7] at HB7
    simp only [hW7]
    clear y2 k1 hW7 HB
    go_wp2
    exact ⟨⟨x + 1, rfl, by omega, by omega, HB7⟩, by simp [intOf]; omega⟩
  · have q2 : decide (x < (M : Int)) = false := decide_eq_false c2
    go_wp2
    go_ret
    exact ⟨rfl, HB.out⟩
set_option maxHeartbeats 4000000 in
theorem aclChecks_calls (A0 A1 : Option Addr) (c0 c1 : Nat) (l : List S41) (who : List S39) (w : World) (hr0 : Kd.C k41 w A0 l.length l) (hc0 : l.length ≤ c0) (hr1 : Kd.C k39 w A1 who.length who) (hc1 : who.length ≤ c1)
    (hl0 : l.length ≤ 9223372036854775807) (hl1 : who.length ≤ 9223372036854775807) (hE : Env w) :
    Calls Tryz.prog 3 #[.slice A0 l.length c0, .slice A1 who.length c1] w fun e w' => e = .returned (.bool true) ∧ Below w.heap.size w w' := by
  obtain ⟨r1, hL1, K1⟩ := long_calls A0 A1 c0 c1 l who hl0 hl1
  have K1 := Lib.hid (K1 w hr0 hc0 hr1 hc1)
  have HL1 := Lib.hid hL1
  have HR0 := Lib.hid hr0
  have HR1 := Lib.hid hr1
  have HE := Lib.hid hE
  clear hL1 hr0 hr1 hE hl0 hl1
  go_enter Tryz.func3, Tryz.ntmps3
  go_wp2_with fail
  refine K1.out.mono ?_
  rintro e w1 ⟨rfl, hB1⟩
  have HB1 := Lib.hid hB1
  clear hB1 K1
  cases r1 with
  | true =>
    go_wp2
    go_ret
    exact ⟨rfl, HB1.out⟩
  | false =>
  have sl := (HL1.out (by trivial)).1
  have sw := (HL1.out (by trivial)).2.1
  have hlw := (HL1.out (by trivial)).2.2
  have HS := Lib.hid (And.intro sl sw)
  clear sl sw HL1
  have KW := Lib.hid (wideE_calls A0 c0 l w1 (Kd.C_below HR0.out HB1.out) hc0 (by omega) (HE.out.below HB1.out))
  go_wp2_with fail
  refine KW.out.mono ?_
  rintro e w2 ⟨g, cap, rfl, hcap, hRW, hB2⟩
  have HB2 := Lib.hid (below_step HB1.out hB2)
  obtain ⟨aE, haE⟩ : ∃ a : Addr, (⟨g, 0, none⟩ : Addr) = a := ⟨_, rfl⟩
  rw [haE] at hRW ⊢
  have HCE := Lib.hid (Kd.R_reads' hRW).2.2
  clear hRW hB2 KW haE
  have KI := Lib.hid (wideI_calls A1 c1 who w2 (Kd.C_below HR1.out HB2.out) hc1 (by omega) (HE.out.below HB2.out))
  go_wp2_with fail
  refine KI.out.mono ?_
  rintro e w3 ⟨gi, capi, rfl, hcapi, hRI, hB3⟩
  have HB3 := Lib.hid (below_step HB2.out hB3)
  obtain ⟨aI, haI⟩ : ∃ a : Addr, (⟨gi, 0, none⟩ : Addr) = a := ⟨_, rfl⟩
  rw [haI] at hRI ⊢
  have HCI := Lib.hid (Kd.R_reads' hRI).2.2
  have HCE3 := Lib.hid (Kd.C_below HCE.out hB3)
  have HCl : Hid (Kd.C k41 w3 (some aE) l.length l) := Lib.hid (by
    have := HCE3.out
    rw [wideE_len] at this
    exact takeC (l' := wideE l) (by rw [wideE_len]; omega) (by simp [wideE]) (by rw [wideE_len]; exact this))
  have HCw : Hid (Kd.C k39 w3 (some aI) who.length who) := Lib.hid (by
    have := HCI.out
    rw [wideI_len] at this
    exact takeC (l' := wideI who) (by rw [wideI_len]; omega) (by simp [wideI]) (by rw [wideI_len]; exact this))
  have HFE : Hid (Kd.C k41 w3 (some aE) (l.length + 64) (wideE l)) := Lib.hid (by have := HCE3.out; rw [wideE_len] at this; exact this)
  have HFI : Hid (Kd.C k39 w3 (some aI) (who.length + 64) (wideI who)) := Lib.hid (by have := HCI.out; rw [wideI_len] at this; exact this)
  clear hRI hB3 KI haI HCE HCI HCE3
  have KC := Lib.hid (check_calls (some aE) cap l w3 HCl.out (by omega) HS.out.1 (by omega) (HE.out.below HB3.out))
  go_wp2_with fail
  refine KC.out.mono ?_
  rintro e w4 ⟨rfl, hB4⟩
  have HB34 := Lib.hid hB4
  have KD := Lib.hid (checkIds_calls (some aI) capi who w4 (Kd.C_below HCw.out hB4) (by omega) HS.out.2 (by omega) (HE.out.below (below_step HB3.out hB4)))
  clear hB4 KC
  obtain ⟨b1, hb1⟩ : ∃ b, checkB l = b := ⟨_, rfl⟩
  obtain ⟨b2, hb2⟩ : ∃ b, checkIB who = b := ⟨_, rfl⟩
  have RC : Hid (∀ W, Kd.C k41 W A0 l.length l → Calls Tryz.prog 11 #[.slice A0 l.length c0] W fun e w' => e = .returned (.int .i64 (okI b1)) ∧ Below W.heap.size W w') := Lib.hid fun W h => by
    have := check_f l HS.out.1 (536871000 + 50) (Nat.le_refl _)
    rw [hb1] at this
    exact (Pr.lagoonref06_Check.calls _ A0 c0 l _ W h hc0 this).mono fun e w' h => ⟨h.1, by first | exact h.2.below | exact h.2⟩
  have RD : Hid (∀ W, Kd.C k39 W A1 who.length who → Calls Tryz.prog 12 #[.slice A1 who.length c1] W fun e w' => e = .returned (.int .i64 (okI b2)) ∧ Below W.heap.size W w') := Lib.hid fun W h => by
    have := checkIds_f who HS.out.2 (536871000 + 50) (Nat.le_refl _)
    rw [hb2] at this
    exact (Pr.lagoonref06_CheckIds.calls _ A1 c1 who _ W h hc1 this).mono fun e w' h => ⟨h.1, by first | exact h.2.below | exact h.2⟩
  rw [hb2] at KD
  rw [hb1]
  clear hb1 hb2
  have ev : ∀ b : Bool, errV b = .int .i64 (okI b) := fun b => by cases b <;> rfl
  have EV := Lib.hid ev
  clear ev
  rw [EV.out b1]
  obtain ⟨z1, hz1⟩ : ∃ z, okI b1 = z := ⟨_, rfl⟩
  obtain ⟨z2, hz2⟩ : ∃ z, okI b2 = z := ⟨_, rfl⟩
  rw [EV.out b2] at KD
  rw [hz2] at KD RD
  rw [hz1] at RC ⊢
  clear hz1 hz2 EV
  go_wp2_with fail
  refine KD.out.mono ?_
  rintro e w5 ⟨rfl, hB5⟩
  have HB35 := Lib.hid (below_step HB34.out hB5)
  have RC1 := Lib.hid (RC.out w5 (Kd.C_below HR0.out (below_step HB3.out HB35.out)))
  clear hB5 KD RC HB34
  go_wp2_with fail
  refine RC1.out.mono ?_
  rintro e w6 ⟨rfl, hB6⟩
  have HB36 := Lib.hid (below_step HB35.out hB6)
  have RD1 := Lib.hid (RD.out w6 (Kd.C_below HR1.out (below_step HB3.out HB36.out)))
  clear hB6 RC1 RD HB35
  go_wp2_with fail
  refine RD1.out.mono ?_
  rintro e w7 ⟨rfl, hB7⟩
  have HB37 := Lib.hid (below_step HB36.out hB7)
  clear hB7 RD1 HB36
  obtain ⟨ke, hke⟩ := eqAcl_self l (by omega)
  obtain ⟨ki, hki⟩ := eqIds_self who (by omega)
  have KE := Lib.hid (Pr.lagoonref00_EqAcl.calls ke (some aE) cap l A0 c0 l true w7 (Kd.C_below HCl.out HB37.out) (by omega) (Kd.C_below HR0.out (below_step HB3.out HB37.out)) hc0 hke)
  have KJ : Hid (∀ W, Below w3.heap.size w3 W → Calls Tryz.prog 15 #[.slice (some aI) who.length capi, .slice A1 who.length c1] W fun e w' => e = .returned (.bool true) ∧ Below W.heap.size W w') :=
    Lib.hid fun W hb => (Pr.lagoonref00_EqIds.calls ki (some aI) capi who A1 c1 who true W (Kd.C_below HCw.out hb) (by omega) (Kd.C_below HR1.out (below_step HB3.out hb)) hc1 hki).mono fun e w' h => ⟨h.1, by first | exact h.2.below | exact h.2⟩
  have KS : Hid (∀ W, Below w3.heap.size w3 W → Calls Tryz.prog 14 #[.slice (some aE) l.length cap] W fun e w' => e = .returned (.bool true) ∧ Below W.heap.size W w') :=
    Lib.hid fun W hb => spareE_calls aE cap l W (Kd.C_below HFE.out hb) hcap (by omega) (HE.out.below (below_step HB3.out hb))
  have KT : Hid (∀ W, Below w3.heap.size w3 W → Calls Tryz.prog 16 #[.slice (some aI) who.length capi] W fun e w' => e = .returned (.bool true) ∧ Below W.heap.size W w') :=
    Lib.hid fun W hb => spareI_calls aI capi who W (Kd.C_below HFI.out hb) hcapi (by omega) (HE.out.below (below_step HB3.out hb))
  have KL : Hid (∀ W, Below w3.heap.size w3 W → Calls Tryz.prog 17 #[] W fun e w' => e = .returned (.bool true) ∧ Below W.heap.size W w') :=
    Lib.hid fun W hb => lives_calls W (HE.out.below (below_step HB3.out hb))
  clear hke hki
  go_wp2_with fail
  refine KE.out.mono ?_
  rintro e w8 ⟨rfl, hD⟩
  have HB38 := Lib.hid (below_step HB37.out (show Below w7.heap.size w7 w8 by first | exact hD.below | exact hD))
  have KS1 := Lib.hid (KS.out _ HB38.out)
  clear hD KE KS HB37
  go_wp2_with fail
  refine KS1.out.mono ?_
  rintro e w9 ⟨rfl, hB9⟩
  have HB39 := Lib.hid (below_step HB38.out hB9)
  have KJ1 := Lib.hid (KJ.out _ HB39.out)
  clear hB9 KS1 KJ HB38
  go_wp2_with fail
  refine KJ1.out.mono ?_
  rintro e w10 ⟨rfl, hB10⟩
  have HB40 := Lib.hid (below_step HB39.out hB10)
  have KT1 := Lib.hid (KT.out _ HB40.out)
  clear hB10 KJ1 KT HB39
  go_wp2_with fail
  refine KT1.out.mono ?_
  rintro e w11 ⟨rfl, hB11⟩
  have HB41 := Lib.hid (below_step HB40.out hB11)
  have KL1 := Lib.hid (KL.out _ HB41.out)
  clear hB11 KT1 KL HB40
  go_wp2_with fail
  refine KL1.out.mono ?_
  rintro e w12 ⟨rfl, hB12⟩
  have HB42 := Lib.hid (below_step HB3.out (below_step HB41.out hB12))
  clear hB12 KL1 HB41
  go_wp2
  go_ret
  exact ⟨rfl, HB42.out⟩
end Go.Proofs.YtgjgafibipepeaaGreatDoor.Q
