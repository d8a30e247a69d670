import Derived.Test.YtgjgafibipepeaaGreatDoorBag15
namespace Go.Proofs.YtgjgafibipepeaaGreatDoor.Bag
open Go.RowKit Go.Proofs.YtgjgafibipepeaaGreatDoorW.PrintWords Go.Deep Go.Maps Go.WideShapes Go.Lib
open Go.Proofs.YtgjgafibipepeaaGreatDoor.Pr (S39 S41 k39 k41 z39 z41 info39 info41)
open Go.Proofs.YtgjgafibipepeaaGreatDoor.Q
set_option linter.unusedVariables false
set_option linter.unusedSimpArgs false
attribute [local go_sem] Oper.semAt_some
/-! ACLFIXES: THE WALK (printed by mkfixA.py) -/
set_option maxRecDepth 1000000 in
set_option maxHeartbeats 16000000 in
theorem aclFixes_calls (A0 A1 : Option Addr) (c0 c1 : Nat) (l : List S41) (who : List S39) (w : World) (hr0 : Kd.C k41 w A0 l.length l) (hc0 : l.length ≤ c0) (hr1 : Kd.C k39 w A1 who.length who) (hc1 : who.length ≤ c1)
    (hl0 : l.length ≤ 9223372036854775807) (hl1 : who.length ≤ 9223372036854775807) (hE : Env w) :
    Calls Tryz.prog 4 #[.slice A0 l.length c0, .slice A1 who.length c1] w fun e w' => e = .returned (.bool true) ∧ Below w.heap.size w w' := by
  obtain ⟨r1, hL1, K1⟩ := long_calls A0 A1 c0 c1 l who hl0 hl1
  have K1 := Lib.hid (K1 w hr0 hc0 hr1 hc1)
  have HL1 := Lib.hid hL1
  have HR0 := Lib.hid hr0
  have HR1 := Lib.hid hr1
  have HE := Lib.hid hE
  clear hL1 hr0 hr1 hE hl0 hl1
  go_enter Tryz.func4, Tryz.ntmps4
  go_wp2_with fail
  refine K1.out.mono ?_
  rintro e w1 ⟨rfl, hB1⟩
  have HB1 := Lib.hid hB1
  clear hB1 K1
  cases r1 with
  | true =>
    go_wp2
    go_ret
    exact ⟨rfl, HB1.out⟩
  | false =>
  have sl := (HL1.out (by trivial)).1
  have sw := (HL1.out (by trivial)).2.1
  have hlw := (HL1.out (by trivial)).2.2
  obtain ⟨F, z, hF⟩ := fix_both l who sl sw (by omega) (by omega)
  obtain ⟨Fo, zo, hFo⟩ := fix_both [] who (fun x h => by cases h) sw (by simp) (by omega)
  have HF := Lib.hid hF
  have HFO := Lib.hid hFo
  have HS := Lib.hid (And.intro sl sw)
  clear sl sw HL1 hF hFo
  have KL := Lib.hid (lives_calls w1 (HE.out.below HB1.out))
  go_wp2_with fail
  refine KL.out.mono ?_
  rintro e w2 ⟨rfl, hB2⟩
  have HB2 := Lib.hid (below_step HB1.out hB2)
  clear hB2 KL HB1
  have KW := Lib.hid (wideE_calls A0 c0 l w2 (Kd.C_below HR0.out HB2.out) hc0 (by omega) (HE.out.below HB2.out))
  go_wp2_with fail
  refine KW.out.mono ?_
  rintro e w3 ⟨g, cap, rfl, hcap, hRW, hB3⟩
  have HG3 : Hid (BagE w w3 ([(.slice (some ⟨g, 0, none⟩) l.length cap, l)].map fun x => start x.1 x.2)) := Lib.hid (BagI.more BagI.zero hB3 HB2.out.size (wide_row hRW (wideE_len l)))
  have HB3 := Lib.hid (below_step HB2.out hB3)
  have HWE : Hid (Kd.C k41 w3 (some ⟨g, 0, none⟩) (l.length + 64) (wideE l)) := Lib.hid (by have := (Kd.R_reads' hRW).2.2; rw [wideE_len] at this; exact this)
  clear hRW hB3 KW HB2
  have KI := Lib.hid (wideI_calls A1 c1 who w3 (Kd.C_below HR1.out HB3.out) hc1 (by omega) (HE.out.below HB3.out))
  go_wp2_with fail
  refine KI.out.mono ?_
  rintro e w4 ⟨gi, capi, rfl, hcapi, hRI, hB4⟩
  have HI4 : Hid (Row encI 2 w.heap.size 39 w4 (.slice (some ⟨gi, 0, none⟩) who.length capi) who) := Lib.hid (own_lower (wide_rowI hRI (wideI_len who)) HB3.out.size)
  have HWI : Hid (Kd.C k39 w4 (some ⟨gi, 0, none⟩) (who.length + 64) (wideI who)) := Lib.hid (by have := (Kd.R_reads' hRI).2.2; rw [wideI_len] at this; exact this)
  have HB4 := Lib.hid (below_step HB3.out hB4)
  have HG4 : Hid (BagE w w4 ([(.slice (some ⟨g, 0, none⟩) l.length cap, l)].map fun x => start x.1 x.2)) := Lib.hid (BagI.below HG3.out hB4)
  have HWE4 := Lib.hid (Kd.C_below HWE.out hB4)
  have HD4 := Lib.hid (Below.refl w4.heap.size w4)
  clear hRI hB4 KI HB3 HWE HG3
  have KC := Lib.hid (HF.out.ref A0 A1 c0 c1 w4 (Kd.C_below HR0.out HB4.out) hc0 (Kd.C_below HR1.out HB4.out) hc1)
  go_wp2_with fail
  refine KC.out.mono ?_
  rintro e w5 ⟨vr, rfl, hr, hB⟩
  have HG5 : Hid (BagE w w5 ([(.slice (some ⟨g, 0, none⟩) l.length cap, l), (vr, F)].map fun x => start x.1 x.2)) := Lib.hid (BagI.more HG4.out hB HB4.out.size hr)
  have HI5 : Hid (Row encI 2 w.heap.size 39 w5 (.slice (some ⟨gi, 0, none⟩) who.length capi) who) := Lib.hid (own_below HI4.out hB)
  have HB5 := Lib.hid (below_step HB4.out hB)
  have HD5 := Lib.hid (below_step HD4.out hB)
  clear hr hB KC HG4 HI4 HB4 HD4
  have KC := Lib.hid (HF.out.ownRow (BagI.row HG5.out (j := 0) rfl) HI5.out (HE.out.below HB5.out))
  go_wp2_with fail
  refine KC.out.mono ?_
  rintro e w6 ⟨va, rfl, hr, hB⟩
  have HG6 : Hid (BagE w w6 ([(.slice (some ⟨g, 0, none⟩) l.length cap, l), (vr, F), (va, F)].map fun x => start x.1 x.2)) := Lib.hid (BagI.more HG5.out hB HB5.out.size hr)
  have HI6 : Hid (Row encI 2 w.heap.size 39 w6 (.slice (some ⟨gi, 0, none⟩) who.length capi) who) := Lib.hid (own_below HI5.out hB)
  have HB6 := Lib.hid (below_step HB5.out hB)
  have HD6 := Lib.hid (below_step HD5.out hB)
  clear hr hB KC HG5 HI5 HB5 HD5
  have KC := Lib.hid (HF.out.ownRow (BagI.row HG6.out (j := 0) rfl) HI6.out (HE.out.below HB6.out))
  go_wp2_with fail
  refine KC.out.mono ?_
  rintro e w7 ⟨vb, rfl, hr, hB⟩
  have HG7 : Hid (BagE w w7 ([(.slice (some ⟨g, 0, none⟩) l.length cap, l), (vr, F), (va, F), (vb, F)].map fun x => start x.1 x.2)) := Lib.hid (BagI.more HG6.out hB HB6.out.size hr)
  have HI7 : Hid (Row encI 2 w.heap.size 39 w7 (.slice (some ⟨gi, 0, none⟩) who.length capi) who) := Lib.hid (own_below HI6.out hB)
  have HB7 := Lib.hid (below_step HB6.out hB)
  have HD7 := Lib.hid (below_step HD6.out hB)
  clear hr hB KC HG6 HI6 HB6 HD6
  have KC := Lib.hid (HFO.out.ownRow (b1 := 0) row_nil HI7.out (HE.out.below HB7.out))
  go_wp2_with fail
  refine KC.out.mono ?_
  rintro e w8 ⟨vo, rfl, hr, hB⟩
  have HG8 : Hid (BagE w w8 ([(.slice (some ⟨g, 0, none⟩) l.length cap, l), (vr, F), (va, F), (vb, F), (vo, Fo)].map fun x => start x.1 x.2)) := Lib.hid (BagI.more HG7.out hB HB7.out.size hr)
  have HI8 : Hid (Row encI 2 w.heap.size 39 w8 (.slice (some ⟨gi, 0, none⟩) who.length capi) who) := Lib.hid (own_below HI7.out hB)
  have HB8 := Lib.hid (below_step HB7.out hB)
  have HD8 := Lib.hid (below_step HD7.out hB)
  clear hr hB KC HG7 HI7 HB7 HD7
  have KC := Lib.hid (HF.out.ownRow (BagI.row HG8.out (j := 0) rfl) HI8.out (HE.out.below HB8.out))
  go_wp2_with fail
  refine KC.out.mono ?_
  rintro e w9 ⟨vc, rfl, hr, hB⟩
  have HG9 : Hid (BagE w w9 ([(.slice (some ⟨g, 0, none⟩) l.length cap, l), (vr, F), (va, F), (vb, F), (vo, Fo), (vc, F)].map fun x => start x.1 x.2)) := Lib.hid (BagI.more HG8.out hB HB8.out.size hr)
  have HI9 : Hid (Row encI 2 w.heap.size 39 w9 (.slice (some ⟨gi, 0, none⟩) who.length capi) who) := Lib.hid (own_below HI8.out hB)
  have HB9 := Lib.hid (below_step HB8.out hB)
  have HD9 := Lib.hid (below_step HD8.out hB)
  clear hr hB KC HG8 HI8 HB8 HD8
  have KC := Lib.hid (HFO.out.ref none A1 0 c1 w9 (nilC_E w9) (Nat.le_refl _) (Kd.C_below HR1.out HB9.out) hc1)
  go_wp2_with fail
  refine KC.out.mono ?_
  rintro e w10 ⟨vq, rfl, hr, hB⟩
  have HG10 : Hid (BagE w w10 ([(.slice (some ⟨g, 0, none⟩) l.length cap, l), (vr, F), (va, F), (vb, F), (vo, Fo), (vc, F), (vq, Fo)].map fun x => start x.1 x.2)) := Lib.hid (BagI.more HG9.out hB HB9.out.size hr)
  have HI10 : Hid (Row encI 2 w.heap.size 39 w10 (.slice (some ⟨gi, 0, none⟩) who.length capi) who) := Lib.hid (own_below HI9.out hB)
  have HB10 := Lib.hid (below_step HB9.out hB)
  have HD10 := Lib.hid (below_step HD9.out hB)
  clear hr hB KC HG9 HI9 HB9 HD9
  have KC := Lib.hid (eqRows_calls (BagI.row HG10.out (j := 2) rfl) (BagI.row HG10.out (j := 1) rfl) (by have := HF.out.small; omega))
  go_wp2_with fail
  refine KC.out.mono ?_
  rintro e w11 ⟨rfl, hB⟩
  have HG11 : Hid (BagE w w11 ([(.slice (some ⟨g, 0, none⟩) l.length cap, l), (vr, F), (va, F), (vb, F), (vo, Fo), (vc, F), (vq, Fo)].map fun x => start x.1 x.2)) := Lib.hid (BagI.below HG10.out hB)
  have HI11 : Hid (Row encI 2 w.heap.size 39 w11 (.slice (some ⟨gi, 0, none⟩) who.length capi) who) := Lib.hid (own_below HI10.out hB)
  have HB11 := Lib.hid (below_step HB10.out hB)
  have HD11 := Lib.hid (below_step HD10.out hB)
  clear hB KC HG10 HI10 HB10 HD10
  have KC := Lib.hid (eqRows_calls (BagI.row HG11.out (j := 3) rfl) (BagI.row HG11.out (j := 1) rfl) (by have := HF.out.small; omega))
  go_wp2_with fail
  refine KC.out.mono ?_
  rintro e w12 ⟨rfl, hB⟩
  have HG12 : Hid (BagE w w12 ([(.slice (some ⟨g, 0, none⟩) l.length cap, l), (vr, F), (va, F), (vb, F), (vo, Fo), (vc, F), (vq, Fo)].map fun x => start x.1 x.2)) := Lib.hid (BagI.below HG11.out hB)
  have HI12 : Hid (Row encI 2 w.heap.size 39 w12 (.slice (some ⟨gi, 0, none⟩) who.length capi) who) := Lib.hid (own_below HI11.out hB)
  have HB12 := Lib.hid (below_step HB11.out hB)
  have HD12 := Lib.hid (below_step HD11.out hB)
  clear hB KC HG11 HI11 HB11 HD11
  have KC := Lib.hid (eqRows_calls (BagI.row HG12.out (j := 5) rfl) (BagI.row HG12.out (j := 1) rfl) (by have := HF.out.small; omega))
  go_wp2_with fail
  refine KC.out.mono ?_
  rintro e w13 ⟨rfl, hB⟩
  have HG13 : Hid (BagE w w13 ([(.slice (some ⟨g, 0, none⟩) l.length cap, l), (vr, F), (va, F), (vb, F), (vo, Fo), (vc, F), (vq, Fo)].map fun x => start x.1 x.2)) := Lib.hid (BagI.below HG12.out hB)
  have HI13 : Hid (Row encI 2 w.heap.size 39 w13 (.slice (some ⟨gi, 0, none⟩) who.length capi) who) := Lib.hid (own_below HI12.out hB)
  have HB13 := Lib.hid (below_step HB12.out hB)
  have HD13 := Lib.hid (below_step HD12.out hB)
  clear hB KC HG12 HI12 HB12 HD12
  have KC := Lib.hid (eqRows_calls (BagI.row HG13.out (j := 4) rfl) (BagI.row HG13.out (j := 6) rfl) (by have := HFO.out.small; omega))
  go_wp2_with fail
  refine KC.out.mono ?_
  rintro e w14 ⟨rfl, hB⟩
  have HG14 : Hid (BagE w w14 ([(.slice (some ⟨g, 0, none⟩) l.length cap, l), (vr, F), (va, F), (vb, F), (vo, Fo), (vc, F), (vq, Fo)].map fun x => start x.1 x.2)) := Lib.hid (BagI.below HG13.out hB)
  have HI14 : Hid (Row encI 2 w.heap.size 39 w14 (.slice (some ⟨gi, 0, none⟩) who.length capi) who) := Lib.hid (own_below HI13.out hB)
  have HB14 := Lib.hid (below_step HB13.out hB)
  have HD14 := Lib.hid (below_step HD13.out hB)
  clear hB KC HG13 HI13 HB13 HD13
  obtain ⟨ke, hke⟩ := eqAcl_self l (by omega)
  obtain ⟨ki, hki⟩ := eqIds_self who (by omega)
  have HCl : Hid (Kd.C k41 w4 (some ⟨g, 0, none⟩) l.length l) := Lib.hid (takeC (l' := wideE l) (by rw [wideE_len]; omega) (by simp [wideE]) (by rw [wideE_len]; exact HWE4.out))
  have HCw : Hid (Kd.C k39 w4 (some ⟨gi, 0, none⟩) who.length who) := Lib.hid (takeC (l' := wideI who) (by rw [wideI_len]; omega) (by simp [wideI]) (by rw [wideI_len]; exact HWI.out))
  have KE : Hid (∀ W, Below w4.heap.size w4 W → Below w.heap.size w W → Calls Tryz.prog 13 #[.slice (some ⟨g, 0, none⟩) l.length cap, .slice A0 l.length c0] W fun e w' => e = .returned (.bool true) ∧ Below W.heap.size W w') :=
    Lib.hid fun W hb hw => (Pr.lagoonref00_EqAcl.calls ke (some ⟨g, 0, none⟩) cap l A0 c0 l true W (Kd.C_below HCl.out hb) (by omega) (Kd.C_below HR0.out hw) hc0 hke).mono fun e w' h => ⟨h.1, by first | exact h.2.below | exact h.2⟩
  have KJ : Hid (∀ W, Below w4.heap.size w4 W → Below w.heap.size w W → Calls Tryz.prog 15 #[.slice (some ⟨gi, 0, none⟩) who.length capi, .slice A1 who.length c1] W fun e w' => e = .returned (.bool true) ∧ Below W.heap.size W w') :=
    Lib.hid fun W hb hw => (Pr.lagoonref00_EqIds.calls ki (some ⟨gi, 0, none⟩) capi who A1 c1 who true W (Kd.C_below HCw.out hb) (by omega) (Kd.C_below HR1.out hw) hc1 hki).mono fun e w' h => ⟨h.1, by first | exact h.2.below | exact h.2⟩
  have KS : Hid (∀ W, Below w4.heap.size w4 W → Below w.heap.size w W → Calls Tryz.prog 14 #[.slice (some ⟨g, 0, none⟩) l.length cap] W fun e w' => e = .returned (.bool true) ∧ Below W.heap.size W w') :=
    Lib.hid fun W hb hw => spareE_calls ⟨g, 0, none⟩ cap l W (Kd.C_below HWE4.out hb) hcap (by omega) (HE.out.below hw)
  have KT : Hid (∀ W, Below w4.heap.size w4 W → Below w.heap.size w W → Calls Tryz.prog 16 #[.slice (some ⟨gi, 0, none⟩) who.length capi] W fun e w' => e = .returned (.bool true) ∧ Below W.heap.size W w') :=
    Lib.hid fun W hb hw => spareI_calls ⟨gi, 0, none⟩ capi who W (Kd.C_below HWI.out hb) hcapi (by omega) (HE.out.below hw)
  clear hke hki HCl HCw HWE4 HWI HR0
  go_upto_region 14 with fail
  go_cut [132] (fun v wz => v = .bool false ∧ Below w14.heap.size w14 wz)
  case first =>
    have HC14 := Lib.hid (Below.refl w14.heap.size w14)
    have KC := Lib.hid (KE.out w14 HD14.out HB14.out)
    go_wp2_with fail
    refine KC.out.mono ?_
    rintro e w15 ⟨rfl, hB⟩
    have HB15 := Lib.hid (below_step HB14.out hB)
    have HD15 := Lib.hid (below_step HD14.out hB)
    have HC15 := Lib.hid (below_step HC14.out hB)
    clear hB KC KE HB14 HD14 HC14
    have KC := Lib.hid (KS.out w15 HD15.out HB15.out)
    go_wp2_with fail
    refine KC.out.mono ?_
    rintro e w16 ⟨rfl, hB⟩
    have HB16 := Lib.hid (below_step HB15.out hB)
    have HD16 := Lib.hid (below_step HD15.out hB)
    have HC16 := Lib.hid (below_step HC15.out hB)
    clear hB KC KS HB15 HD15 HC15
    have KC := Lib.hid (KJ.out w16 HD16.out HB16.out)
    go_wp2_with fail
    refine KC.out.mono ?_
    rintro e w17 ⟨rfl, hB⟩
    have HB17 := Lib.hid (below_step HB16.out hB)
    have HD17 := Lib.hid (below_step HD16.out hB)
    have HC17 := Lib.hid (below_step HC16.out hB)
    clear hB KC KJ HB16 HD16 HC16
    have KC := Lib.hid (KT.out w17 HD17.out HB17.out)
    go_wp2_with fail
    refine KC.out.mono ?_
    rintro e w18 ⟨rfl, hB⟩
    have HB18 := Lib.hid (below_step HB17.out hB)
    have HD18 := Lib.hid (below_step HD17.out hB)
    have HC18 := Lib.hid (below_step HC17.out hB)
    clear hB KC KT HB17 HD17 HC17
    go_wp2
    go_meet
    case rel => exact ⟨rfl, HC18.out⟩
  case rest =>
  obtain ⟨rfl, hB⟩ := hcut
  have HG18 := Lib.hid (BagI.below HG14.out hB)
  have HI18 := Lib.hid (own_below HI14.out hB)
  have HB18 := Lib.hid (below_step HB14.out hB)
  clear hB HG14 HI14 HB14 HD14 KE KS KJ KT
  have h4 := HF.out.small
  have h5 := HFO.out.small
  have HSL := Lib.hid HS.out.1
  have HSW := Lib.hid HS.out.2
  clear HS HF HFO
  rename_i K2 aK2 K aK
  refine aK _ _ ?_
  refine wp_cond_false rfl (wp_skip ?_)
  refine aK2 _ _ ?_
  exact fix_r16 A1 c1 g cap gi capi l.length l who F Fo vr va vb vo vc vq w _ HR1 hc1 HE HB18 HG18 (Lib.hid HI18.out) rfl (by omega) h4 h5 (by omega) (by omega) HSL HSW _ _ _ _ _ _ _ _ _ _ _ _ _ _ _ _ _ _ _ _ _ _ _ _ _ _ _ _ _ _ _ _ _ _ _ _ _ _ _ _ _ _ _ _ _ _ _ _ _ _ _ _ _ _ _ _ _ _ _ _ _ _ _ _ _ _ _ _ _ _ _ _ _ _ _ _ _ _ _ _ _ _ _ _ _ _ _ _ _ _ _ _ _ _ _ _ _ _ _ _ _ _ _ _ _ _ _ _ _ _ _ _ _ _ _ _ _ _ _ _ _ _ _ _ _ _ _ _ _ _ _ _ _ _ _ _ _ _ _ _ _ _ _ _ _ _ _ _ _ _ _ _ _ _ _ _ _ _ _ _ _ _ _ _ _ _ _ _ _ _ _ _ _ _ _ _ _ _ _ _ _ _ _ _ _ _ _ _ _ _ _ _ _ _ _
end Go.Proofs.YtgjgafibipepeaaGreatDoor.Bag
