import Derived.Test.YtgjgafibipepeaaDoorB8
import Derived.Test.YtgjgafibipepeaaDoorB6
import Derived.Test.YtgjgafibipepeaaDoorB7
namespace Go.Proofs.YtgjgafibipepeaaDoor.Q
open Go.RowKit Go.Proofs.YtgjgafibipepeaaDoorW.PrintWords Go.Deep Go.Maps Go.WideShapes Go.Lib
open Go.Proofs.YtgjgafibipepeaaDoor.Pr (S25 S33 k25 k33 z25 z33 info33 info25)
open Go.Proofs.YtgjgafibipepeaaDoor
set_option linter.unusedVariables false
set_option linter.unusedSimpArgs false
attribute [local go_sem] Oper.semAt_some
/-! ACLBITS: THE WALK -/
set_option maxRecDepth 1000000 in
set_option maxHeartbeats 16000000 in
theorem aclBits_calls (A0 A1 A2 : Option Addr) (c0 c1 c2 : Nat) (l : List S33) (maker who : List S25) (pp : Int) (more : S33) (other : S25) (w : World)
    (hr0 : Kd.C k33 w A0 l.length l) (hc0 : l.length ≤ c0) (hr1 : Kd.C k25 w A1 maker.length maker) (hc1 : maker.length ≤ c1) (hr2 : Kd.C k25 w A2 who.length who) (hc2 : who.length ≤ c2)
    (hl0 : l.length ≤ 9223372036854775807) (hl1 : maker.length ≤ 9223372036854775807) (hl2 : who.length ≤ 9223372036854775807) (hE : Env w) :
    Calls Tryd.prog 4 #[.agg #[.slice A0 l.length c0, .slice A1 maker.length c1, .int .i8 pp, .slice A2 who.length c2, .int .i8 more.f0, .string more.f1.f0, .string more.f1.f1, .string other.f0, .string other.f1]] w
      fun e w' => e = .returned (.bool true) ∧ Below w.heap.size w w' := by
  obtain ⟨mq, ms, mm⟩ := more
  obtain ⟨os, om⟩ := other
  dsimp only
  have HR0 := Lib.hid hr0
  have HR1 := Lib.hid hr1
  have HR2 := Lib.hid hr2
  have HE := Lib.hid hE
  clear hr0 hr1 hr2 hE
  go_enter Tryd.func4, Tryd.ntmps4
  go_wp2_with fail
  obtain ⟨W3, hW3⟩ : ∃ W, ((w.alloc (.cells #[.slice A0 l.length c0, .slice A1 maker.length c1, .int .i8 pp, .slice A2 who.length c2, .int .i8 mq, .string ms, .string mm, .string os, .string om] 35)).alloc (.cells #[.int .i8 mq, .string ms, .string mm] 33)).alloc (.cells #[.string os, .string om] 25) = W := ⟨_, rfl⟩
  have hB3 : Below w.heap.size w W3 := by rw [← hW3]; exact below_alloc (below_alloc (below_alloc (Below.refl _ w) _) _) _
  have hm3 : W3.heap[w.heap.size + 1]? = some (.cells #[.int .i8 mq, .string ms, .string mm] 33 (0, 0)) := by
    rw [← hW3]
    refine blk_below ?_ (below_alloc (Below.refl _ _) _)
    have := World.alloc_heap_new (w.alloc (.cells #[.slice A0 l.length c0, .slice A1 maker.length c1, .int .i8 pp, .slice A2 who.length c2, .int .i8 mq, .string ms, .string mm, .string os, .string om] 35)) (.cells #[.int .i8 mq, .string ms, .string mm] 33)
    rw [World.size_alloc] at this
    exact this
  have ho3 : W3.heap[w.heap.size + 1 + 1]? = some (.cells #[.string os, .string om] 25 (0, 0)) := by
    rw [← hW3]
    have := World.alloc_heap_new ((w.alloc (.cells #[.slice A0 l.length c0, .slice A1 maker.length c1, .int .i8 pp, .slice A2 who.length c2, .int .i8 mq, .string ms, .string mm, .string os, .string om] 35)).alloc (.cells #[.int .i8 mq, .string ms, .string mm] 33)) (.cells #[.string os, .string om] 25)
    rw [World.size_alloc, World.size_alloc] at this
    exact this
  rw [hW3]
  have HB3 := Lib.hid hB3
  have HM := Lib.hid (And.intro hm3 ho3)
  clear hW3 hB3 hm3 ho3
  obtain ⟨r1, hL1, K1⟩ := long_calls A0 A2 c0 c2 l who hl0 hl2
  have HL1 := Lib.hid hL1
  refine (K1 _ (Kd.C_below HR0.out HB3.out) hc0 (Kd.C_below HR2.out HB3.out) hc2).mono ?_
  rintro e w4 ⟨rfl, hB4⟩
  have HB4 := Lib.hid (below_step HB3.out hB4)
  have HM4 := Lib.hid (And.intro (blk_below HM.out.1 hB4) (blk_below HM.out.2 hB4))
  clear hL1 K1 hB4 HM HB3
  cases r1 with
  | true =>
    go_wp2
    go_ret
    exact ⟨rfl, HB4.out⟩
  | false =>
  have m0 := cell_row (k := 0) (v := .int .i8 mq) HM4.out.1 rfl
  have m1 := cell_row (k := 1) (v := .string ms) HM4.out.1 rfl
  have m2 := cell_row (k := 2) (v := .string mm) HM4.out.1 rfl
  obtain ⟨r2, hL2, K2⟩ := long_calls (some ⟨w4.heap.size, 0, none⟩) A1 1 c1 [⟨mq, ⟨ms, mm⟩⟩] maker (by simp) hl1
  have HL2 := Lib.hid hL2
  have hB5 : Below w4.heap.size w4 (w4.alloc (.cells #[.int .i8 mq, .string ms, .string mm] 33)) := below_alloc (Below.refl _ w4) _
  have hC5 : Kd.C k33 (w4.alloc (.cells #[.int .i8 mq, .string ms, .string mm] 33)) (some ⟨w4.heap.size, 0, none⟩) 1 [⟨mq, ⟨ms, mm⟩⟩] := (Kd.R_reads' (row_lit k33 w4 w4.heap.size 33 (fun _ => True) (reps_E w4 w4.heap.size [⟨mq, ⟨ms, mm⟩⟩]) trivial (Nat.le_refl _) (by simp))).2.2
  have K2 := Lib.hid (K2 _ hC5 (Nat.le_refl _) (Kd.C_below HR1.out (below_step HB4.out hB5)) hc1)
  have HB5 := Lib.hid (below_step HB4.out hB5)
  have HM5 := Lib.hid (And.intro (blk_below HM4.out.1 hB5) (blk_below HM4.out.2 hB5))
  clear hL2 hC5 hB5
  go_wp2_with fail
  refine K2.out.mono ?_
  rintro e w6 ⟨rfl, hB6⟩
  have HB6 := Lib.hid (below_step HB5.out hB6)
  have HM6 := Lib.hid (And.intro (blk_below HM5.out.1 hB6) (blk_below HM5.out.2 hB6))
  clear hB6 K2 HM5 HB5 m0 m1 m2 HM4 HB4
  cases r2 with
  | true =>
    go_wp2
    go_ret
    exact ⟨rfl, HB6.out⟩
  | false =>
  have o0 := cell_row (k := 0) (v := .string os) HM6.out.2 rfl
  have o1 := cell_row (k := 1) (v := .string om) HM6.out.2 rfl
  obtain ⟨r3, hL3, K3⟩ := long_calls none (some ⟨w6.heap.size, 0, none⟩) 0 1 [] [⟨os, om⟩] (by simp) (by simp)
  have HL3 := Lib.hid hL3
  have hB7 : Below w6.heap.size w6 (w6.alloc (.cells #[.string os, .string om] 25)) := below_alloc (Below.refl _ w6) _
  have hC7 : Kd.C k25 (w6.alloc (.cells #[.string os, .string om] 25)) (some ⟨w6.heap.size, 0, none⟩) 1 [⟨os, om⟩] := (Kd.R_reads' (row_lit k25 w6 w6.heap.size 25 (fun _ => True) (reps_I w6 w6.heap.size [⟨os, om⟩]) trivial (Nat.le_refl _) (by simp))).2.2
  have K3 := Lib.hid (K3 _ (nilC_E _) (Nat.le_refl _) hC7 (Nat.le_refl _))
  have HB7 := Lib.hid (below_step HB6.out hB7)
  have HM7 := Lib.hid (And.intro (blk_below HM6.out.1 hB7) (blk_below HM6.out.2 hB7))
  clear hL3 hC7 hB7
  go_wp2_with fail
  refine K3.out.mono ?_
  rintro e w8 ⟨rfl, hB8⟩
  have HB8 := Lib.hid (below_step HB7.out hB8)
  have HM8 := Lib.hid (And.intro (blk_below HM7.out.1 hB8) (blk_below HM7.out.2 hB8))
  clear hB8 K3 HM7 HB7 o0 o1 HM6 HB6
  cases r3 with
  | true =>
    go_wp2
    go_ret
    exact ⟨rfl, HB8.out⟩
  | false =>
  have sl := (HL1.out (by trivial)).1
  have sw := (HL1.out (by trivial)).2.1
  have hlw := (HL1.out (by trivial)).2.2
  have smore := (HL2.out (by trivial)).1 _ List.mem_cons_self
  have sma := (HL2.out (by trivial)).2.1
  have hmk := (HL2.out (by trivial)).2.2
  have sother := (HL3.out (by trivial)).2.1 _ List.mem_cons_self
  have HS := Lib.hid (And.intro sl (And.intro sw (And.intro smore (And.intro sma sother))))
  simp only [List.length_cons, List.length_nil] at hmk
  clear sl sw smore sma sother HL1 HL2 HL3 hl0 hl1 hl2
  have KL := Lib.hid (lives_calls w8 (HE.out.below HB8.out))
  go_wp2_with fail
  refine KL.out.mono ?_
  rintro e w9 ⟨rfl, hB9⟩
  have HB9 := Lib.hid (below_step HB8.out hB9)
  have HM9 := Lib.hid (And.intro (blk_below HM8.out.1 hB9) (blk_below HM8.out.2 hB9))
  clear hB9 KL HM8 HB8
  have KF := Lib.hid (fix_calls A0 A1 c0 c1 l maker w9 (Kd.C_below HR0.out HB9.out) hc0 (Kd.C_below HR1.out HB9.out) hc1 HS.out.1 HS.out.2.2.2.1 (by omega) (by omega) (HE.out.below HB9.out))
  obtain ⟨fx, hfx⟩ : ∃ x, fixB l maker = x := ⟨_, rfl⟩
  rw [hfx] at KF
  have HFX := Lib.hid hfx
  clear hfx
  go_wp2_with fail
  refine KF.out.mono ?_
  rintro e w10 ⟨hF, hB10⟩
  have HB10 := Lib.hid (below_step HB9.out hB10)
  have HM10 := Lib.hid (And.intro (blk_below HM9.out.1 hB10) (blk_below HM9.out.2 hB10))
  clear hB10 KF HM9 HB9
  cases fx with
  | none =>
    have hF' : e = .returned (.tuple #[.slice none 0 0, .int .i64 60]) := hF
    subst hF'
    clear hF
    go_wp2
    go_ret
    exact ⟨rfl, HB10.out⟩
  | some f =>
  have hright := fix_right HFX.out
  have hf4 := (checkB_iff.1 hright.1).1
  have hfne := hright.2.2
  obtain ⟨v, rfl, hR⟩ := hF
  have hfl : 0 < f.length := List.length_pos_iff.2 hfne
  obtain ⟨g, cap, rfl, _, _, _⟩ := Kd.R_form hR hfl
  obtain ⟨aF, haF⟩ : ∃ a : Addr, (⟨g, 0, none⟩ : Addr) = a := ⟨_, rfl⟩
  rw [haF] at hR ⊢
  clear haF
  have HCF := Lib.hid (Kd.R_reads' hR)
  have HFI : Hid (IsFixed f) := Lib.hid ⟨hright.1, hright.2.1, hright.2.2⟩
  have sf : ∀ x ∈ f, smE x := fix_small HS.out.1 HS.out.2.2.2.1 HFX.out
  have HSF := Lib.hid sf
  clear hR hright hfne sf HFX
  unfold errV
  go_upto_region 12 with fail
  have hcode : HCF = HCF := rfl
  go_cut [11, 12] (fun va vg wr => ((checkIB who = true → ∃ g2 cap2, va = .slice (some ⟨g2, 0, none⟩) f.length cap2 ∧ vg = .int .i64 0 ∧ Kd.C k33 wr (some ⟨g2, 0, none⟩) f.length f ∧ f.length ≤ cap2) ∧ (checkIB who = false → va = .slice none 0 0 ∧ vg = .int .i64 60)) ∧ Below w10.heap.size w10 wr)
  case first =>
    have KF := Lib.hid (fix_calls (some aF) A2 cap c2 f who w10 HCF.out.2.2 HCF.out.2.1 (Kd.C_below HR2.out HB10.out) hc2 HSF.out HS.out.2.1 (by omega) (by omega) (HE.out.below HB10.out))
    cases hw : checkIB who with
    | false =>
      rw [fix_not hw] at KF
      go_wp2_with fail
      refine KF.out.mono ?_
      rintro e w11 ⟨hF, hB11⟩
      have hF' : e = .returned (.tuple #[.slice none 0 0, .int .i64 60]) := hF
      subst hF'
      have HB11 := Lib.hid hB11
      clear hF hB11 KF
      go_wp2
      go_meet
      case rel => exact ⟨⟨fun h => absurd (hw.symm.trans h) (by simp), fun _ => ⟨rfl, rfl⟩⟩, HB11.out⟩
    | true =>
      rw [fix_again HFI.out.right HFI.out.noAuth HFI.out.some hw] at KF
      go_wp2_with fail
      refine KF.out.mono ?_
      rintro e w11 ⟨hF, hB11⟩
      obtain ⟨v, rfl, hR⟩ := hF
      obtain ⟨g2, cap2, rfl, _, _, _⟩ := Kd.R_form hR hfl
      have HR11 := Lib.hid (Kd.R_reads' hR)
      have HB11 := Lib.hid hB11
      unfold errV
      clear hR hB11 KF
      go_wp2
      go_meet
      case rel => exact ⟨⟨fun _ => ⟨g2, cap2, rfl, rfl, HR11.out.2.2, HR11.out.2.1⟩, fun h => absurd (hw.symm.trans h) (by simp)⟩, HB11.out⟩
  case rest =>
  obtain ⟨hX, hBc⟩ := hcut
  have HX := Lib.hid hX
  have HBc := Lib.hid hBc
  have HMc := Lib.hid (And.intro (blk_below HM10.out.1 hBc) (blk_below HM10.out.2 hBc))
  have HCc := Lib.hid (Kd.C_below HCF.out.2.2 hBc)
  have HBw := Lib.hid (below_step HB10.out hBc)
  have hcap := HCF.out.2.1
  clear hX hBc HM10
  go_upto_region 13 with fail
  go_cut [95] (fun v wr => v = .bool false ∧ Below wc.heap.size wc wr)
  case first =>
    have K1 := Lib.hid (check_calls (some aF) cap f wc HCc.out hcap HSF.out (by omega) (HE.out.below HBw.out))
    rw [HFI.out.right] at K1
    have K2 : Hid (∀ W, Below wc.heap.size wc W → Calls Tryd.prog 13 #[.slice A2 who.length c2] W fun e w' => e = .returned (errV (checkIB who)) ∧ Below W.heap.size W w') :=
      Lib.hid fun W hb => checkIds_calls A2 c2 who W (Kd.C_below HR2.out (below_step HBw.out hb)) hc2 HS.out.2.1 (by omega) (HE.out.below (below_step HBw.out hb))
    have q1 : decide ((f.length : Int) = 0) = false := decide_eq_false (by omega)
    have q2 : ((f.length : Int) == 0) = false := beq_eq_false_iff_ne.2 (by omega)
    go_wp2_with fail
    refine K1.out.mono ?_
    rintro e w11 ⟨rfl, hB11⟩
    have HB11 := Lib.hid hB11
    have K3 := Lib.hid (K2.out w11 hB11)
    unfold errV
    clear hB11 K1 K2
    go_wp2_with fail
    refine K3.out.mono ?_
    rintro e w12 ⟨rfl, hB12⟩
    have HB12 := Lib.hid (below_step HB11.out hB12)
    clear hB12 K3 HB11
    unfold errV
    cases hw : checkIB who with
    | false =>
      go_wp2
      go_meet
      case rel => exact ⟨rfl, HB12.out⟩
    | true =>
      obtain ⟨g2, cap2, rfl, rfl, hC2, hc22⟩ := HX.out.1 hw
      obtain ⟨ke, hke⟩ := eqAcl_self f (by omega)
      have KE := Lib.hid (Pr.lagoonref00_EqAcl.calls ke (some ⟨g2, 0, none⟩) cap2 f (some aF) cap f true w12 (Kd.C_below hC2 HB12.out) hc22 (Kd.C_below HCc.out HB12.out) hcap hke)
      clear hC2 hke
      go_wp2_with fail
      refine KE.out.mono ?_
      rintro e w13 ⟨rfl, hD⟩
      have HB13 := Lib.hid (below_step HB12.out hD.below)
      clear hD KE
      go_wp2
      go_meet
      case rel => exact ⟨rfl, HB13.out⟩
  case rest =>
  obtain ⟨rfl, hBd⟩ := hcut
  have HB14 := Lib.hid (below_step HBw.out hBd)
  have HC14 := Lib.hid (Kd.C_below HCc.out hBd)
  have HM14 := Lib.hid (And.intro (blk_below HMc.out.1 hBd) (blk_below HMc.out.2 hBd))
  clear hBd HMc HX HBc HBw HCc
  go_wp2_with fail
  go_loopw [13] (fun vi wr => ∃ x : Int, vi = .int .i64 x ∧ 0 ≤ x ∧ x ≤ (f.length : Int) ∧ Hid (Below wc.heap.size wc wr)) (fun vi _ => ((f.length : Int) - intOf vi).toNat)
  case atStart => exact ⟨0, rfl, by omega, by omega, Lib.hid (Below.refl _ _)⟩
  case round =>
  obtain ⟨x, rfl, x0, xl, HBr⟩ := hrel
  by_cases c3 : x < (f.length : Int)
  · have q3 : decide (x < (f.length : Int)) = true := decide_eq_true c3
    obtain ⟨el, hel⟩ : ∃ y, Pr.rd_T33 f x = y := ⟨_, rfl⟩
    obtain ⟨ad, eA, hx0, hx1, hx2⟩ := Pr.at_T33 HC14.out x x0 c3
    cases eA
    rw [hel] at hx0 hx1 hx2
    replace hx1 := pw_cell_below HBr.out hx1
    have hmem : el ∈ f := by
      have hlt : x.toNat < f.length := by omega
      rw [← hel]
      simp [Pr.rd_T33, List.getD, List.getElem?_eq_getElem hlt]
    have hau : (el.f1.f0.toList == ([97, 117, 116, 104] : List UInt8)) = false := HFI.out.noAuth el hmem
    obtain ⟨q, s, m⟩ := el
    dsimp only at hx1 hau
    clear hel hx0 hx2 hmem
    have x0' := eq_true x0
    have c3' := eq_true c3
    go_wp2
    go_roundw
    case measure => simp [intOf]; omega
    case rel => exact ⟨x + 1, rfl, by omega, by omega, HBr⟩
  have q3 : decide (x < (f.length : Int)) = false := decide_eq_false c3
  have HB20 := Lib.hid (below_step HB14.out HBr.out)
  have HC20 := Lib.hid (Kd.C_below HC14.out HBr.out)
  have HM20 := Lib.hid (And.intro (blk_below HM14.out.1 HBr.out) (blk_below HM14.out.2 HBr.out))
  clear HBr HM14 HC14 HB14
  go_upto_region 20 with fail
  clear q3 c3 x0 xl
  go_cut [14] (fun v wz => (∃ gw cw, v = .slice (some ⟨gw, 0, none⟩) (f.length + 1) cw ∧ f.length + 1 ≤ cw ∧ Kd.C k33 wz (some ⟨gw, 0, none⟩) (f.length + 1) (f ++ [⟨mq, ⟨ms, mm⟩⟩])) ∧ Below wr.heap.size wr wz)
  case first =>
    obtain ⟨kc, hkc⟩ := copyE_f f (by omega)
    have KC : Hid (∀ W, Below wr.heap.size wr W → Calls Tryd.prog 15 #[.slice (some aF) f.length cap] W fun e w' => ∃ v0, e = .returned v0 ∧ Kd.R k33 33 w' W.heap.size (fun _ => True) v0 f ∧ Below W.heap.size W w') :=
      Lib.hid fun W hb => Pr.lagoonref00_CopyAcl.calls kc (some aF) cap f f W (Kd.C_below HC20.out hb) hcap hkc
    obtain ⟨i0, hi0, hzz⟩ := Option.map_eq_some_iff.1 info33
    simp only [Prod.mk.injEq] at hzz
    obtain ⟨hz0, hz1, hz2⟩ := hzz
    have HI := Lib.hid (And.intro hi0 (And.intro hz0 (And.intro hz1 hz2)))
    have m0 : ∀ W : World, Below wr.heap.size wr W → W.cell? ⟨w.heap.size + 1, 0, none⟩ = some (.int .i8 mq) := fun W hb => cell_row (blk_below HM20.out.1 hb) rfl
    have m1 : ∀ W : World, Below wr.heap.size wr W → W.cell? ⟨w.heap.size + 1, 1, none⟩ = some (.string ms) := fun W hb => cell_row (blk_below HM20.out.1 hb) rfl
    have m2 : ∀ W : World, Below wr.heap.size wr W → W.cell? ⟨w.heap.size + 1, 2, none⟩ = some (.string mm) := fun W hb => cell_row (blk_below HM20.out.1 hb) rfl
    have HMM := Lib.hid (And.intro m0 (And.intro m1 m2))
    have d0 := HMM.out.1 wr.drew (below_drew (Below.refl _ _))
    have d1 := HMM.out.2.1 wr.drew (below_drew (Below.refl _ _))
    have d2 := HMM.out.2.2 wr.drew (below_drew (Below.refl _ _))
    clear hkc hi0 hz0 hz1 hz2 m0 m1 m2
    go_region_law (first
      | (go_simp; go_at_call 15; refine (KC.out _ (by repeat (first | exact Below.refl _ _ | apply below_alloc | apply below_drew))).mono ?_; rintro e w20 ⟨v0, rfl, hR, hB⟩; obtain ⟨gq, cq, rfl, hbq, hlq, _⟩ := Kd.R_form hR hfl; have hbw : Below wr.heap.size wr w20 := below_step (by repeat (first | exact Below.refl _ _ | apply below_alloc | apply below_drew)) hB; have e0 := HMM.out.1 w20 hbw; have e1 := HMM.out.2.1 w20 hbw; have e2 := HMM.out.2.2 w20 hbw)
      | (refine step_app k33 (by rfl) _ _ 29 33 (by rfl) i0 _ 40 Tryd.underlying29 HI.out.1 HI.out.2.1 HI.out.2.2.1 HI.out.2.2.2 rfl (by decide) _ _ f ⟨mq, ⟨ms, mm⟩⟩ [.int .i8 mq, .string ms, .string mm] (by rfl) (Kd.R_alloc hR _) ⟨w20.heap.size, 0, none⟩ 1 (by rfl) (Pr.k33_mkM _ _ _ _) (World.news_of_block (cs := #[.int .i8 mq, .string ms, .string mm]) (t := 33) (fr := (0, 0)) (heap_alloc_new w20 _)) (Nat.le_trans hB.size (by simp)) (by omega) (by decide) ?_; intro v1 w21 hR1 hB1)
      | (refine step_app k33 (by rfl) _ _ 29 33 (by rfl) i0 _ 40 Tryd.underlying29 HI.out.1 HI.out.2.1 HI.out.2.2.1 HI.out.2.2.2 rfl (by decide) _ _ f ⟨mq, ⟨ms, mm⟩⟩ [.int .i8 mq, .string ms, .string mm] (by rfl) hR ⟨wr.heap.size, 0, none⟩ 1 (by rfl) (Pr.k33_mkM _ _ _ _) (World.news_of_block (cs := #[.int .i8 mq, .string ms, .string mm]) (t := 33) (fr := (0, 0)) (blk_below (show (wr.alloc (.cells #[.int .i8 mq, .string ms, .string mm] 33)).drew.heap[wr.heap.size]? = _ from heap_alloc_new wr _) hB)) hB.size (by omega) (by decide) ?_; intro v1 w21 hR1 hB1))
    all_goals (
      have hBf : Below wr.heap.size wr w21 := by first | exact (below_alloc hbw _).trans (hB1.mono (Nat.le_refl _)) | exact hbw.trans (hB1.mono (by simp [World.drew]))
      obtain ⟨g1, cc1, hv1, _, _, _⟩ := Kd.R_form hR1 (by simp)
      subst hv1
      have hC1 := Kd.R_reads' hR1
      have hln : (f ++ [(⟨mq, ⟨ms, mm⟩⟩ : S33)]).length = f.length + 1 := by simp
      rw [hln] at hC1 ⊢
      have HC1 := Lib.hid hC1
      have HBf := Lib.hid hBf
      clear hC1 hBf hR1 hB1 hR hB hbw e0 e1 e2 d0 d1 d2
      go_wp2
      go_meet
      case rel => exact ⟨⟨g1, cc1, rfl, HC1.out.2.1, HC1.out.2.2⟩, HBf.out⟩)
  case rest =>
  obtain ⟨⟨gw, cw, rfl, hcw, hCW⟩, hBe⟩ := hcut
  have HB21 := Lib.hid (below_step HB20.out hBe)
  have HC21 := Lib.hid (Kd.C_below HC20.out hBe)
  have HM21 := Lib.hid (And.intro (blk_below HM20.out.1 hBe) (blk_below HM20.out.2 hBe))
  have HW21 := Lib.hid hCW
  clear hCW hBe HM20 HC20 HB20
  go_upto_region 21 with fail
  go_cut [15] (fun v wz => (∃ gw cw, v = .slice (some ⟨gw, 0, none⟩) (who.length + 1) cw ∧ who.length + 1 ≤ cw ∧ Kd.C k25 wz (some ⟨gw, 0, none⟩) (who.length + 1) (who ++ [⟨os, om⟩])) ∧ Below wc.heap.size wc wz)
  case first =>
    obtain ⟨kc, hkc⟩ := copyI_f who (by omega)
    have KC : Hid (∀ W, Below wc.heap.size wc W → Calls Tryd.prog 16 #[.slice A2 who.length c2] W fun e w' => ∃ v0, e = .returned v0 ∧ Kd.R k25 25 w' W.heap.size (fun _ => True) v0 who ∧ Below W.heap.size W w') :=
      Lib.hid fun W hb => Pr.lagoonref00_CopyIds.calls kc A2 c2 who who W (Kd.C_below HR2.out (below_step HB21.out hb)) hc2 hkc
    obtain ⟨i0, hi0, hzz⟩ := Option.map_eq_some_iff.1 info25
    simp only [Prod.mk.injEq] at hzz
    obtain ⟨hz0, hz1, hz2⟩ := hzz
    have HI := Lib.hid (And.intro hi0 (And.intro hz0 (And.intro hz1 hz2)))
    have m0 : ∀ W : World, Below wc.heap.size wc W → W.cell? ⟨w.heap.size + 1 + 1, 0, none⟩ = some (.string os) := fun W hb => cell_row (blk_below HM21.out.2 hb) rfl
    have m1 : ∀ W : World, Below wc.heap.size wc W → W.cell? ⟨w.heap.size + 1 + 1, 1, none⟩ = some (.string om) := fun W hb => cell_row (blk_below HM21.out.2 hb) rfl
    have HMM := Lib.hid (And.intro m0 m1)
    have d0 := HMM.out.1 wc.drew (below_drew (Below.refl _ _))
    have d1 := HMM.out.2 wc.drew (below_drew (Below.refl _ _))
    clear hkc hi0 hz0 hz1 hz2 m0 m1
    go_region_law (first
      | (go_simp; go_at_call 16; refine (KC.out _ (by repeat (first | exact Below.refl _ _ | apply below_alloc | apply below_drew))).mono ?_; rintro e w20 ⟨v0, rfl, hR, hB⟩; have hbw : Below wc.heap.size wc w20 := below_step (by repeat (first | exact Below.refl _ _ | apply below_alloc | apply below_drew)) hB; have e0 := HMM.out.1 w20 hbw; have e1 := HMM.out.2 w20 hbw)
      | (refine step_app k25 (by rfl) _ _ 30 25 (by rfl) i0 _ 32 Tryd.underlying30 HI.out.1 HI.out.2.1 HI.out.2.2.1 HI.out.2.2.2 rfl (by decide) _ _ who ⟨os, om⟩ [.string os, .string om] (by rfl) (Kd.R_alloc hR _) ⟨w20.heap.size, 0, none⟩ 1 (by rfl) (Pr.k25_mkM _ _ _ _) (World.news_of_block (cs := #[.string os, .string om]) (t := 25) (fr := (0, 0)) (heap_alloc_new w20 _)) (Nat.le_trans hB.size (by simp)) (by omega) (by decide) ?_; intro v1 w21 hR1 hB1)
      | (refine step_app k25 (by rfl) _ _ 30 25 (by rfl) i0 _ 32 Tryd.underlying30 HI.out.1 HI.out.2.1 HI.out.2.2.1 HI.out.2.2.2 rfl (by decide) _ _ who ⟨os, om⟩ [.string os, .string om] (by rfl) hR ⟨wc.heap.size, 0, none⟩ 1 (by rfl) (Pr.k25_mkM _ _ _ _) (World.news_of_block (cs := #[.string os, .string om]) (t := 25) (fr := (0, 0)) (blk_below (show (wc.alloc (.cells #[.string os, .string om] 25)).drew.heap[wc.heap.size]? = _ from heap_alloc_new wc _) hB)) hB.size (by omega) (by decide) ?_; intro v1 w21 hR1 hB1))
    all_goals (
      have hBf : Below wc.heap.size wc w21 := by first | exact (below_alloc hbw _).trans (hB1.mono (Nat.le_refl _)) | exact hbw.trans (hB1.mono (by simp [World.drew]))
      obtain ⟨g1, cc1, hv1, _, _, _⟩ := Kd.R_form hR1 (by simp)
      subst hv1
      have hC1 := Kd.R_reads' hR1
      have hln : (who ++ [(⟨os, om⟩ : S25)]).length = who.length + 1 := by simp
      rw [hln] at hC1 ⊢
      have HC1 := Lib.hid hC1
      have HBf := Lib.hid hBf
      clear hC1 hBf hR1 hB1 hR hB hbw e0 e1 d0 d1
      go_wp2
      go_meet
      case rel => exact ⟨⟨g1, cc1, rfl, HC1.out.2.1, HC1.out.2.2⟩, HBf.out⟩)
  case rest =>
  obtain ⟨⟨gi, ci, rfl, hci, hCI⟩, hBg⟩ := hcut
  have HB22 := Lib.hid (below_step HB21.out hBg)
  have HC22 := Lib.hid (Kd.C_below HC21.out hBg)
  have HM22 := Lib.hid (And.intro (blk_below HM21.out.1 hBg) (blk_below HM21.out.2 hBg))
  have HW22 := Lib.hid (Kd.C_below HW21.out hBg)
  have HI22 := Lib.hid hCI
  clear hCI hBg HM21 HC21 HB21 HW21
  rename_i K aK
  refine aK _ _ ?_
  exact bits_r22 A2 aF c2 cap gw cw gi ci f who mq ms mm os om w wc HR2 hc2 HE HB22 (Lib.hid HM22.out.1) HC22 hcap HW22 hcw HI22 hci HFI hf4 hfl (by omega) HSF (Lib.hid HS.out.2.1) (Lib.hid HS.out.2.2.1) (Lib.hid HS.out.2.2.2.2) _ _ _ _ _ _ _ _ _ _ _ _ _ _ _ _ _ _ _ _ _ _ _ _ _ _ _ _ _ _ _ _ _ _ _ _ _ _ _ _ _ _ _ _ _ _ _ _ _ _ _ _ _ _ _ _ _ _ _ _ _ _ _ _ _ _ _ _ _ _ _ _ _ _ _ _ _ _ _ _ _ _ _ _ _ _ _ _ _ _ _ _ _ _ _ _ _ _ _ _ _ _ _ _ _ _ _ _ _ _ _ _ _ _ _ _ _ _ _ _ _ _ _ _ _ _ _ _ _ _ _ _ _ _ _ _ _ _ _ _ _ _ _ _ _ _ _ _ _ _ _ _ _ _ _ _ _ _ _ _ _ _ _ _ _ _ _ _ _ _ _ _ _ _ _ _ _ _ _ _ _ _ _ _ _ _ _ _ _ _ _ _ _
end Go.Proofs.YtgjgafibipepeaaDoor.Q
