import Derived.Test.YtgjgafibipepeaaDoorB4
namespace Go.Proofs.YtgjgafibipepeaaDoor.Q
open Go.RowKit Go.Proofs.YtgjgafibipepeaaDoorW.PrintWords Go.Deep Go.Maps Go.WideShapes Go.Lib
open Go.Proofs.YtgjgafibipepeaaDoor.Pr (S25 S33 k25 k33 z25 z33 info33 info25)
open Go.Proofs.YtgjgafibipepeaaDoor
set_option linter.unusedVariables false
set_option linter.unusedSimpArgs false
attribute [local go_sem] Oper.semAt_some
/-! ACLBITS, FROM REGION 22 ON -/
/-- how far the bits are tried -/
def Stp (m : Int) (acc : List Int) : Prop := (m = 1 ∧ acc = []) ∨ (m = 2 ∧ acc = [1]) ∨ (m = 4 ∧ acc = [1, 2]) ∨ (m = 8 ∧ acc = [1, 2, 4]) ∨ (m = 16 ∧ acc = [1, 2, 4, 8]) ∨ (m = 32 ∧ acc = [1, 2, 4, 8, 16])
theorem Stp.next {m : Int} {acc : List Int} (h : Stp m acc) (hm : m < 32) : Stp (m * 2) (acc ++ [m]) := by
  unfold Stp at h ⊢
  rcases h with ⟨rfl, rfl⟩ | ⟨rfl, rfl⟩ | ⟨rfl, rfl⟩ | ⟨rfl, rfl⟩ | ⟨rfl, rfl⟩ | ⟨rfl, rfl⟩
  · exact .inr (.inl ⟨by omega, rfl⟩)
  · exact .inr (.inr (.inl ⟨by omega, rfl⟩))
  · exact .inr (.inr (.inr (.inl ⟨by omega, rfl⟩)))
  · exact .inr (.inr (.inr (.inr (.inl ⟨by omega, rfl⟩))))
  · exact .inr (.inr (.inr (.inr (.inr ⟨by omega, rfl⟩))))
  · omega
theorem Stp.le {m : Int} {acc : List Int} (h : Stp m acc) (hm : m < 32) : m * 2 ≤ 32 := by
  unfold Stp at h
  rcases h with ⟨rfl, rfl⟩ | ⟨rfl, rfl⟩ | ⟨rfl, rfl⟩ | ⟨rfl, rfl⟩ | ⟨rfl, rfl⟩ | ⟨rfl, rfl⟩ <;> omega
theorem Stp.last {m : Int} {acc : List Int} (h : Stp m acc) (hm : ¬ m < 32) : acc = [1, 2, 4, 8, 16] := by
  unfold Stp at h
  rcases h with ⟨rfl, rfl⟩ | ⟨rfl, rfl⟩ | ⟨rfl, rfl⟩ | ⟨rfl, rfl⟩ | ⟨rfl, rfl⟩ | ⟨rfl, rfl⟩ <;> first | rfl | omega
/-- does code begin with a region? -/
def startsC (id : Nat) : Code → Bool
  | .region j _ _ => Nat.beq j id
  | .seq a _ => startsC id a
  | _ => false
/-- what is left of a body from the statement on that begins with a region -/
def fromC (id : Nat) : Code → Code
  | .seq a b => match startsC id a with
    | true => .seq a b
    | false => fromC id b
  | c => c
noncomputable def rest22 : Code := fromC 22 (Tryd.f4.body.getD .skip)
set_option maxRecDepth 1000000 in
set_option maxHeartbeats 16000000 in
theorem bits_r22 (A2 : Option Addr) (aF : Addr) (c2 cap gw cw gi ci : Nat) (f : List S33) (who : List S25) (mq : Int) (ms mm os om : ByteArray) (w wA : World)
    (HR2 : Hid (Kd.C k25 w A2 who.length who)) (hc2 : who.length ≤ c2) (HE : Hid (Env w)) (HB22 : Hid (Below w.heap.size w wA)) (HM22 : Hid (wA.heap[w.heap.size + 1]? = some (.cells #[.int .i8 mq, .string ms, .string mm] 33 (0, 0))))
    (HC22 : Hid (Kd.C k33 wA (some aF) f.length f)) (hcap : f.length ≤ cap) (HW22 : Hid (Kd.C k33 wA (some ⟨gw, 0, none⟩) (f.length + 1) (f ++ [⟨mq, ⟨ms, mm⟩⟩]))) (hcw : f.length + 1 ≤ cw)
    (HI22 : Hid (Kd.C k25 wA (some ⟨gi, 0, none⟩) (who.length + 1) (who ++ [⟨os, om⟩]))) (hci : who.length + 1 ≤ ci) (HFI : Hid (IsFixed f)) (hf4 : f.length ≤ 4) (hfl : 0 < f.length) (hwl : who.length ≤ 1073741823)
    (HSF : Hid (∀ x ∈ f, smE x)) (HSW0 : Hid (∀ x ∈ who, smI x)) (HSM : Hid (smE ⟨mq, ⟨ms, mm⟩⟩)) (HSO : Hid (smI ⟨os, om⟩)) (u0 u1 u2 u3 u6 u7 u8 u10 u11 u12 u13 u16 u17 u18 u19 u20 u21 u22 u23 u24 u25 u26 u27 u28 u29 u30 u31 u32 u33 u34 u35 u36 u37 u38 u39 u40 u41 u42 u43 u44 u45 u46 u47 u48 u49 u50 u51 u52 u53 u54 u55 u56 u57 u58 u59 u60 u61 u62 u63 u64 u65 u66 u67 u68 u69 u70 u71 u72 u73 u74 u75 u76 u77 u78 u79 u80 u81 u82 u83 u84 u85 u86 u87 u88 u89 u90 u91 u92 u93 u94 u95 u96 u97 u98 u99 u100 u101 u102 u103 u104 u105 u106 u107 u108 u109 u110 u111 u112 u113 u114 u115 u116 u117 u118 u119 u120 u121 u122 u123 u124 u125 u126 u127 u128 u129 u130 u131 u132 u133 u134 u135 u136 u137 u138 u139 u140 u141 u142 u143 u144 u145 u146 u147 u148 u149 u150 u151 u152 u153 u154 u155 u156 u157 u158 u159 u160 u161 u162 u163 u164 u165 u166 u167 u168 u169 u170 u171 u172 u173 u174 u175 u176 u177 u178 u179 u180 u181 u182 u183 u184 u185 u186 u187 u188 u189 u190 u191 u192 u193 u194 u195 u196 u197 : Value) :
    Code.wp Tryd.prog rest22 (bodyPost Tryd.prog Tryd.f4 (fun e w' => e = .returned (.bool true) ∧ Below w.heap.size w w')) ⟨List.toArray (u0 :: u1 :: u2 :: u3 :: .pointer (some ⟨w.heap.size + 1, 0, none⟩) :: .slice A2 who.length c2 :: u6 :: u7 :: u8 :: .slice (some aF) f.length cap :: u10 :: u11 :: u12 :: u13 :: .slice (some ⟨gw, 0, none⟩) (f.length + 1) cw :: .slice (some ⟨gi, 0, none⟩) (who.length + 1) ci :: u16 :: u17 :: u18 :: u19 :: u20 :: u21 :: u22 :: u23 :: u24 :: u25 :: u26 :: u27 :: u28 :: u29 :: u30 :: u31 :: u32 :: u33 :: u34 :: u35 :: u36 :: u37 :: u38 :: u39 :: u40 :: u41 :: u42 :: u43 :: u44 :: u45 :: u46 :: u47 :: u48 :: u49 :: u50 :: u51 :: u52 :: u53 :: u54 :: u55 :: u56 :: u57 :: u58 :: u59 :: u60 :: u61 :: u62 :: u63 :: u64 :: u65 :: u66 :: u67 :: u68 :: u69 :: u70 :: u71 :: u72 :: u73 :: u74 :: u75 :: u76 :: u77 :: u78 :: u79 :: u80 :: u81 :: u82 :: u83 :: u84 :: u85 :: u86 :: u87 :: u88 :: u89 :: u90 :: u91 :: u92 :: u93 :: u94 :: u95 :: u96 :: u97 :: u98 :: u99 :: u100 :: u101 :: u102 :: u103 :: u104 :: u105 :: u106 :: u107 :: u108 :: u109 :: u110 :: u111 :: u112 :: u113 :: u114 :: u115 :: u116 :: u117 :: u118 :: u119 :: u120 :: u121 :: u122 :: u123 :: u124 :: u125 :: u126 :: u127 :: u128 :: u129 :: u130 :: u131 :: u132 :: u133 :: u134 :: u135 :: u136 :: u137 :: u138 :: u139 :: u140 :: u141 :: u142 :: u143 :: u144 :: u145 :: u146 :: u147 :: u148 :: u149 :: u150 :: u151 :: u152 :: u153 :: u154 :: u155 :: u156 :: u157 :: u158 :: u159 :: u160 :: u161 :: u162 :: u163 :: u164 :: u165 :: u166 :: u167 :: u168 :: u169 :: u170 :: u171 :: u172 :: u173 :: u174 :: u175 :: u176 :: u177 :: u178 :: u179 :: u180 :: u181 :: u182 :: u183 :: u184 :: u185 :: u186 :: u187 :: u188 :: u189 :: u190 :: u191 :: u192 :: u193 :: u194 :: u195 :: u196 :: u197 :: []), []⟩ wA := by
  have hlw1 : (f ++ [(⟨mq, ⟨ms, mm⟩⟩ : S33)]).length = f.length + 1 := by simp
  have hli1 : (who ++ [(⟨os, om⟩ : S25)]).length = who.length + 1 := by simp
  have HSW : Hid (∀ x ∈ f ++ [(⟨mq, ⟨ms, mm⟩⟩ : S33)], smE x) := Lib.hid fun x hx => by
    rcases List.mem_append.1 hx with hx | hx
    · exact HSF.out x hx
    · rw [List.mem_singleton.1 hx]; exact HSM.out
  have HSI : Hid (∀ x ∈ who ++ [(⟨os, om⟩ : S25)], smI x) := Lib.hid fun x hx => by
    rcases List.mem_append.1 hx with hx | hx
    · exact HSW0.out x hx
    · rw [List.mem_singleton.1 hx]; exact HSO.out
  have HCW : Hid (Kd.C k33 wA (some ⟨gw, 0, none⟩) (f ++ [(⟨mq, ⟨ms, mm⟩⟩ : S33)]).length (f ++ [(⟨mq, ⟨ms, mm⟩⟩ : S33)])) := Lib.hid (by rw [hlw1]; exact HW22.out)
  have HCI : Hid (Kd.C k25 wA (some ⟨gi, 0, none⟩) (who ++ [(⟨os, om⟩ : S25)]).length (who ++ [(⟨os, om⟩ : S25)])) := Lib.hid (by rw [hli1]; exact HI22.out)
  obtain ⟨wider, hwi⟩ : ∃ b, (checkB (f ++ [(⟨mq, ⟨ms, mm⟩⟩ : S33)]) && !authB ⟨mq, ⟨ms, mm⟩⟩) = b := ⟨_, rfl⟩
  obtain ⟨longer, hlo⟩ : ∃ b, checkIB (who ++ [(⟨os, om⟩ : S25)]) = b := ⟨_, rfl⟩
  obtain ⟨right, hri⟩ : ∃ b, checkIB who = b := ⟨_, rfl⟩
  have HWI := Lib.hid hwi
  have HLO := Lib.hid hlo
  have HRI := Lib.hid hri
  have HLN := Lib.hid (And.intro hlw1 hli1)
  have KA : Hid (∀ W, Below wA.heap.size wA W → ∀ p : Int, Calls Tryd.prog 17 #[.slice (some aF) f.length cap, .int .i8 p, .slice A2 who.length c2] W fun e w' => e = .returned (.bool (allowsB f p who)) ∧ Below W.heap.size W w') :=
    Lib.hid fun W hb p => allows_calls (some aF) A2 cap c2 f p who W (Kd.C_below HC22.out hb) hcap (Kd.C_below HR2.out (below_step HB22.out hb)) hc2 HSF.out HSW0.out (by omega) (by omega) (HE.out.below (below_step HB22.out hb))
  have KI : Hid (∀ W, Below wA.heap.size wA W → ∀ p : Int, Calls Tryd.prog 17 #[.slice (some aF) f.length cap, .int .i8 p, .slice (some ⟨gi, 0, none⟩) (who.length + 1) ci] W fun e w' => e = .returned (.bool (allowsB f p (who ++ [⟨os, om⟩]))) ∧ Below W.heap.size W w') :=
    Lib.hid fun W hb p => by
      have := allows_calls (some aF) (some ⟨gi, 0, none⟩) cap ci f p (who ++ [⟨os, om⟩]) W (Kd.C_below HC22.out hb) hcap (Kd.C_below HCI.out hb) (by rw [HLN.out.2]; exact hci) HSF.out HSI.out (by omega) (by rw [HLN.out.2]; omega) (HE.out.below (below_step HB22.out hb))
      rw [HLN.out.2] at this
      exact this
  have KW : Hid (∀ W, Below wA.heap.size wA W → ∀ p : Int, Calls Tryd.prog 17 #[.slice (some ⟨gw, 0, none⟩) (f.length + 1) cw, .int .i8 p, .slice A2 who.length c2] W fun e w' => e = .returned (.bool (allowsB (f ++ [⟨mq, ⟨ms, mm⟩⟩]) p who)) ∧ Below W.heap.size W w') :=
    Lib.hid fun W hb p => by
      have := allows_calls (some ⟨gw, 0, none⟩) A2 cw c2 (f ++ [⟨mq, ⟨ms, mm⟩⟩]) p who W (Kd.C_below HCW.out hb) (by rw [HLN.out.1]; exact hcw) (Kd.C_below HR2.out (below_step HB22.out hb)) hc2 HSW.out HSW0.out (by rw [HLN.out.1]; omega) (by omega) (HE.out.below (below_step HB22.out hb))
      rw [HLN.out.1] at this
      exact this
  clear hwi hlo hri hlw1 hli1
  clear HC22 HW22 HI22
  conv => arg 2; whnf
  go_upto_region 22 with fail
  go_cut [16] (fun v wz => v = .bool wider ∧ Below wA.heap.size wA wz)
  case first =>
    have K22 := check_calls (some ⟨gw, 0, none⟩) cw (f ++ [⟨mq, ⟨ms, mm⟩⟩]) wA HCW.out (by rw [HLN.out.1]; exact hcw) HSW.out (by rw [HLN.out.1]; omega) (HE.out.below HB22.out)
    rw [HLN.out.1] at K22
    have K22 := Lib.hid K22
    obtain ⟨b, hb⟩ : ∃ b, checkB (f ++ [(⟨mq, ⟨ms, mm⟩⟩ : S33)]) = b := ⟨_, rfl⟩
    rw [hb] at K22
    have HBB := Lib.hid hb
    clear hb KA KI KW
    go_wp2_with fail
    refine K22.out.mono ?_
    rintro e w23 ⟨rfl, hB23⟩
    have HB23 := Lib.hid hB23
    have m1 := cell_row (k := 1) (v := .string ms) (blk_below HM22.out hB23) rfl
    clear hB23 K22
    unfold errV
    cases b with
    | false =>
      go_wp2
      go_meet
      case rel => exact ⟨by rw [← HWI.out, HBB.out]; rfl, HB23.out⟩
    | true =>
      cases hau : (ms.toList == ([97, 117, 116, 104] : List UInt8)) with
      | false =>
        go_wp2
        go_meet
        case rel => exact ⟨by rw [← HWI.out, HBB.out, show authB ⟨mq, ⟨ms, mm⟩⟩ = false from hau]; rfl, HB23.out⟩
      | true =>
        go_wp2
        go_meet
        case rel => exact ⟨by rw [← HWI.out, HBB.out, show authB ⟨mq, ⟨ms, mm⟩⟩ = true from hau]; rfl, HB23.out⟩
  case rest =>
  obtain ⟨rfl, hBh⟩ := hcut
  have HBh := Lib.hid hBh
  clear hBh
  go_upto_region 23 with fail
  go_cut [17] (fun v wz => v = .bool longer ∧ Below wA.heap.size wA wz)
  case first =>
    have K23 := checkIds_calls (some ⟨gi, 0, none⟩) ci (who ++ [⟨os, om⟩]) wc (Kd.C_below HCI.out HBh.out) (by rw [HLN.out.2]; exact hci) HSI.out (by rw [HLN.out.2]; omega) (HE.out.below (below_step HB22.out HBh.out))
    rw [HLN.out.2, HLO.out] at K23
    have K23 := Lib.hid K23
    clear KA KI KW
    go_wp2_with fail
    refine K23.out.mono ?_
    rintro e w23 ⟨rfl, hB23⟩
    have HB23 := Lib.hid (below_step HBh.out hB23)
    clear hB23 K23
    unfold errV
    cases longer with
    | false =>
      go_wp2
      go_meet
      case rel => exact ⟨rfl, HB23.out⟩
    | true =>
      go_wp2
      go_meet
      case rel => exact ⟨rfl, HB23.out⟩
  case rest =>
  obtain ⟨rfl, hBi⟩ := hcut
  have HBi := Lib.hid hBi
  clear hBi HBh
  go_upto_region 24 with fail
  go_cut [18] (fun v wz => v = .bool right ∧ Below wA.heap.size wA wz)
  case first =>
    have K24 := checkIds_calls A2 c2 who wc (Kd.C_below HR2.out (below_step HB22.out HBi.out)) hc2 HSW0.out (by omega) (HE.out.below (below_step HB22.out HBi.out))
    rw [HRI.out] at K24
    have K24 := Lib.hid K24
    clear KA KI KW
    go_wp2_with fail
    refine K24.out.mono ?_
    rintro e w23 ⟨rfl, hB23⟩
    have HB23 := Lib.hid (below_step HBi.out hB23)
    clear hB23 K24
    unfold errV
    cases right with
    | false =>
      go_wp2
      go_meet
      case rel => exact ⟨rfl, HB23.out⟩
    | true =>
      go_wp2
      go_meet
      case rel => exact ⟨rfl, HB23.out⟩
  case rest =>
  obtain ⟨rfl, hBj⟩ := hcut
  have HBj := Lib.hid hBj
  clear hBj HBi
  go_wp2_with fail
  go_loopw [19] (fun vp wz => ∃ p : Int, vp = .int .i8 p ∧ 0 ≤ p ∧ p ≤ 32 ∧ Hid (Below wA.heap.size wA wz)) (fun vp _ => (32 - intOf vp).toNat)
  case atStart => exact ⟨0, rfl, by omega, by omega, HBj⟩
  case round =>
  clear HBj
  obtain ⟨p, rfl, p0, p32, HBp⟩ := hrel
  by_cases c4 : p < 32
  · have q4 : decide (p < 32) = true := decide_eq_true c4
    obtain ⟨a, ha⟩ : ∃ a, allowsB f p who = a := ⟨_, rfl⟩
    have HA := Lib.hid ha
    have K28 := KA.out _ HBp.out p
    rw [ha] at K28
    have K28 := Lib.hid K28
    clear ha
    go_wp2_with fail
    refine K28.out.mono ?_
    rintro e w28 ⟨rfl, hB28⟩
    have HB28 := Lib.hid (below_step HBp.out hB28)
    clear hB28 K28 HBp
    go_wp2_with fail
    go_loopw [21, 22] (fun ve vb wz => ∃ (m : Int) (acc : List Int) (e : Bool), ve = .bool e ∧ vb = .int .i8 m ∧ 1 ≤ m ∧ m ≤ 32 ∧ Hid (Stp m acc) ∧ Hid (e = (right && acc.all fun b => (andd p b == 0) || allowsB f b who)) ∧ Hid (Below wA.heap.size wA wz)) (fun _ vb _ => (32 - intOf vb).toNat)
    case atStart => exact ⟨1, [], right, rfl, rfl, by omega, by omega, Lib.hid (.inl ⟨rfl, rfl⟩), Lib.hid (by simp), HB28⟩
    case round =>
    clear HB28
    obtain ⟨m, acc, e, rfl, rfl, m1, m32, HST, HEQ, HBm⟩ := hrel
    by_cases c5 : m < 32
    · have q5 : decide (m < 32) = true := decide_eq_true c5
      have HNX := Lib.hid (Stp.next HST.out c5)
      have m2 := Stp.le HST.out c5
      obtain ⟨z, hz⟩ : ∃ z, bits .and .i8 p m = z := ⟨_, rfl⟩
      have HZ := Lib.hid hz
      by_cases z0 : z = 0
      · subst z0
        have HEQ2 : Hid (e = (right && (acc ++ [m]).all fun b => (andd p b == 0) || allowsB f b who)) := Lib.hid (by
          rw [List.all_append, List.all_cons, show (andd p m == 0) = true from by unfold andd; rw [HZ.out]; rfl, HEQ.out]; simp)
        clear HEQ
        go_wp2
        go_roundw
        case measure => simp [intOf]; omega
        case rel => exact ⟨m * 2, acc ++ [m], e, rfl, by simp, by omega, by omega, HNX, HEQ2, HBm⟩
      · have hq1 : decide (z = 0) = false := decide_eq_false z0
        have hq2 : (z == 0) = false := beq_eq_false_iff_ne.2 z0
        obtain ⟨c, hc⟩ : ∃ c, allowsB f m who = c := ⟨_, rfl⟩
        have HEQ2 : Hid ((e && c) = (right && (acc ++ [m]).all fun b => (andd p b == 0) || allowsB f b who)) := Lib.hid (by
          rw [List.all_append, List.all_cons, show (andd p m == 0) = false from by unfold andd; rw [HZ.out]; exact hq2, HEQ.out, hc]; simp [Bool.and_assoc])
        have K34 := KA.out _ HBm.out m
        rw [hc] at K34
        have K34 := Lib.hid K34
        clear hc HEQ
        go_wp2_with fail
        refine K34.out.mono ?_
        rintro e2 w34 ⟨rfl, hB34⟩
        have HB34 := Lib.hid (below_step HBm.out hB34)
        clear hB34 K34 HBm
        cases e with
        | false =>
          go_wp2
          go_roundw
          case measure => simp [intOf]; omega
          case rel => exact ⟨m * 2, acc ++ [m], false, rfl, by simp, by omega, by omega, HNX, HEQ2, HB34⟩
        | true =>
          go_wp2
          go_roundw
          case measure => simp [intOf]; omega
          case rel => exact ⟨m * 2, acc ++ [m], c, rfl, by simp, by omega, by omega, HNX, HEQ2, HB34⟩
    · have q5 : decide (m < 32) = false := decide_eq_false c5
      have hea : e = a := by
        rw [HEQ.out, Stp.last HST.out c5, ← HA.out, ← HRI.out]
        exact (allows_bits HFI.out ⟨p0, by omega⟩ who).symm
      subst hea
      clear HEQ HST
      cases e with
      | false =>
        go_wp2
        go_roundw
        case measure => simp [intOf]; omega
        case rel => exact ⟨p + 1, rfl, by omega, by omega, HBm⟩
      | true =>
        have KIp : Hid (∀ W, Below wA.heap.size wA W → longer = true → Calls Tryd.prog 17 #[.slice (some aF) f.length cap, .int .i8 p, .slice (some ⟨gi, 0, none⟩) (who.length + 1) ci] W fun e w' => e = .returned (.bool true) ∧ Below W.heap.size W w') :=
          Lib.hid fun W hb h => by have := KI.out W hb p; rw [allows_longer HFI.out HA.out (by rw [HLO.out]; exact h)] at this; exact this
        have KWp : Hid (∀ W, Below wA.heap.size wA W → wider = true → Calls Tryd.prog 17 #[.slice (some ⟨gw, 0, none⟩) (f.length + 1) cw, .int .i8 p, .slice A2 who.length c2] W fun e w' => e = .returned (.bool true) ∧ Below W.heap.size W w') :=
          Lib.hid fun W hb h => by
            have := KW.out W hb p
            have hw := HWI.out.trans h
            rw [Bool.and_eq_true, Bool.not_eq_true'] at hw
            rw [allows_wider HFI.out HA.out hw.1 hw.2] at this
            exact this
        cases longer with
        | false =>
          cases wider with
          | false =>
            go_wp2
            go_roundw
            case measure => simp [intOf]; omega
            case rel => exact ⟨p + 1, rfl, by omega, by omega, HBm⟩
          | true =>
            have K37 := Lib.hid (KWp.out _ HBm.out rfl)
            go_wp2_with fail
            refine K37.out.mono ?_
            rintro e2 w37 ⟨rfl, hB37⟩
            have HB37 := Lib.hid (below_step HBm.out hB37)
            clear hB37 K37
            go_wp2
            go_roundw
            case measure => simp [intOf]; omega
            case rel => exact ⟨p + 1, rfl, by omega, by omega, HB37⟩
        | true =>
          have K36 := Lib.hid (KIp.out _ HBm.out rfl)
          go_wp2_with fail
          refine K36.out.mono ?_
          rintro e2 w36 ⟨rfl, hB36⟩
          have HB36 := Lib.hid (below_step HBm.out hB36)
          clear hB36 K36
          cases wider with
          | false =>
            go_wp2
            go_roundw
            case measure => simp [intOf]; omega
            case rel => exact ⟨p + 1, rfl, by omega, by omega, HB36⟩
          | true =>
            have K37 := Lib.hid (KWp.out _ HB36.out rfl)
            go_wp2_with fail
            refine K37.out.mono ?_
            rintro e2 w37 ⟨rfl, hB37⟩
            have HB37 := Lib.hid (below_step HB36.out hB37)
            clear hB37 K37
            go_wp2
            go_roundw
            case measure => simp [intOf]; omega
            case rel => exact ⟨p + 1, rfl, by omega, by omega, HB37⟩
  · have q4 : decide (p < 32) = false := decide_eq_false c4
    have K38 := KA.out _ HBp.out 32
    rw [(allows_beyond f who).1] at K38
    have K38 := Lib.hid K38
    have K39 : Hid (∀ W, Below wA.heap.size wA W → Calls Tryd.prog 17 #[.slice (some aF) f.length cap, .int .i8 (-1), .slice A2 who.length c2] W fun e w' => e = .returned (.bool false) ∧ Below W.heap.size W w') :=
      Lib.hid fun W hb => by have := KA.out W hb (-1); rw [(allows_beyond f who).2] at this; exact this
    go_wp2_with fail
    refine K38.out.mono ?_
    rintro e w38 ⟨rfl, hB38⟩
    have HB38 := Lib.hid (below_step HBp.out hB38)
    have K40 := Lib.hid (K39.out _ HB38.out)
    clear hB38 K38 K39
    go_wp2_with fail
    refine K40.out.mono ?_
    rintro e w39 ⟨rfl, hB39⟩
    have HB39 := Lib.hid (below_step HB22.out (below_step HB38.out hB39))
    clear hB39 K40
    go_wp2
    go_ret
    exact ⟨rfl, HB39.out⟩
end Go.Proofs.YtgjgafibipepeaaDoor.Q
