import Derived.Test.YteajaakhdnlpeaaH
namespace Go.Proofs.Yteajaakhdnlpeaa.Q
open Go.RowKit Go.Proofs.YteajaakhdnlpeaaW.PrintWords Go.Deep
set_option linter.unusedVariables false
set_option linter.unusedSimpArgs false

/-- does code begin with a region? -/
def startsC (id : Nat) : Code → Bool
  | .region j _ _ => Nat.beq j id
  | .seq a _ => startsC id a
  | _ => false
/-- what is left of a body from the statement on that begins with a region -/
def fromC (id : Nat) : Code → Code
  | .seq a b => match startsC id a with
    | true => .seq a b
    | false => fromC id b
  | c => c
noncomputable def rest16 : Code := fromC 16 (Try.f3.body.getD .skip)
noncomputable def rest33 : Code := fromC 33 (Try.f3.body.getD .skip)
variable {w W : World} {A D M : Nat} {mo : Nat → Int} {R N : Nat → Nat} {V : Nat → Value} {L : Nat → List Int}
theorem CR.cA (h : CR w W 2 A D M mo R N V L) {k : Nat} (hk : k < 2) : W.cell? ⟨A, k, none⟩ = some (.pointer (if fin (mo k) = true then some ⟨R k, 0, none⟩ else none)) := by
  rw [h.ra.cell hk]; simp [hk]
theorem CR.cD (h : CR w W 2 A D M mo R N V L) {k : Nat} (hk : k < 2) : W.cell? ⟨D, k, none⟩ = some (.pointer (some ⟨N k, 0, none⟩)) := by
  rw [h.rd.cell hk]; simp [hk]
/-- Now, of side k -/
theorem CR.now (h : CR w W 2 A D M mo R N V L) {k : Nat} (hk : k < 2) (hf : fin (mo k) = true) :
    Calls Try.prog 11 #[.pointer (some ⟨N k, 0, none⟩)] W fun e w' => ∃ A' c', e = .returned (.slice A' (lastN (mo k).toNat (L k)).length c') ∧ Rd w' A' (lastN (mo k).toNat (L k)) ∧ Below W.heap.size W w' := by
  obtain ⟨A', c, hv, hc, hr⟩ := own_rd (h.own k hk)
  have hb := (h.num k hk).2
  obtain ⟨f0, f1⟩ := (fin_iff _).1 hf
  rw [hv, show mo k = ((mo k).toNat : Int) by omega] at hb
  exact now_calls (N k) (mo k).toNat c A' (L k) W hb hr hc (by omega)
theorem CR.len (h : CR w W 2 A D M mo R N V L) {k : Nat} (hk : k < 2) (hf : fin (mo k) = true) :
    Calls Try.prog 12 #[.pointer (some ⟨R k, 0, none⟩)] W fun e w' => e = .returned (.int .i64 (lastN (mo k).toNat (L k)).length) ∧ W = w' := by
  have := len_int (R k) (mo k).toNat _ W (h.ring k hk hf).2
  rwa [show (ints (lastN (mo k).toNat (L k))).length = (lastN (mo k).toNat (L k)).length by simp [ints]] at this
theorem CR.small (h : CR w W 2 A D M mo R N V L) {k : Nat} (hk : k < 2) (hf : fin (mo k) = true) : (lastN (mo k).toNat (L k)).length ≤ 64 := by
  have := ring_len (h.ring k hk hf).2; simpa [ints] using this

set_option maxRecDepth 1000000 in
set_option maxHeartbeats 16000000 in
theorem r33 (h : CR w W 2 A D M mo R N V L) (u0 u1 u2 u3 u4 u5 u6 u10 u11 u12 u13 u14 u15 u16 u17 u18 u19 u20 u21 u22 u23 u24 u25 u26 u27 u28 u29 u30 u31 u32 u33 u34 u35 u36 u37 u38 u39 u40 u41 u42 u43 u44 u45 u46 u47 u48 u49 u50 u51 u52 u53 u54 u55 u56 u57 u58 u59 u60 u61 u62 u63 u64 u65 u66 u67 u68 u69 u70 u71 u72 u73 u74 u75 u76 u77 u78 u79 u80 u81 u82 u83 u84 u85 u86 u87 u88 u89 u90 u91 u92 u93 u94 u95 u96 u97 u98 u99 u100 u101 u102 u103 u104 u105 u106 u107 u108 u109 u110 u111 u112 u113 u114 u115 u116 u117 u118 u119 u120 u121 u122 u123 u124 u125 u126 u127 u128 u129 u130 u131 u132 u133 u134 u135 u136 u137 u138 u139 u140 u141 u142 u143 u144 u145 u146 u147 u148 u149 u150 u151 u152 u153 u154 u155 u156 u157 u158 u159 u160 u161 u162 u163 u164 u165 u166 u167 u168 u169 u170 u171 u172 u173 u174 u175 u176 u177 u178 u179 u180 u181 u182 u183 u184 u185 u186 u187 u188 u189 u190 u191 u192 u193 u194 u195 : Value) :
    Code.wp Try.prog rest33 (bodyPost Try.prog Try.f3 (fun e w' => e = .returned (.bool true) ∧ Below w.heap.size w w')) ⟨#[u0, u1, u2, u3, u4, u5, u6, .bool true, .pointer (some ⟨A, 0, none⟩), .pointer (some ⟨D, 0, none⟩), u10, u11, u12, u13, u14, u15, u16, u17, u18, u19, u20, u21, u22, u23, u24, u25, u26, u27, u28, u29, u30, u31, u32, u33, u34, u35, u36, u37, u38, u39, u40, u41, u42, u43, u44, u45, u46, u47, u48, u49, u50, u51, u52, u53, u54, u55, u56, u57, u58, u59, u60, u61, u62, u63, u64, u65, u66, u67, u68, u69, u70, u71, u72, u73, u74, u75, u76, u77, u78, u79, u80, u81, u82, u83, u84, u85, u86, u87, u88, u89, u90, u91, u92, u93, u94, u95, u96, u97, u98, u99, u100, u101, u102, u103, u104, u105, u106, u107, u108, u109, u110, u111, u112, u113, u114, u115, u116, u117, u118, u119, u120, u121, u122, u123, u124, u125, u126, u127, u128, u129, u130, u131, u132, u133, u134, u135, u136, u137, u138, u139, u140, u141, u142, u143, u144, u145, u146, u147, u148, u149, u150, u151, u152, u153, u154, u155, u156, u157, u158, u159, u160, u161, u162, u163, u164, u165, u166, u167, u168, u169, u170, u171, u172, u173, u174, u175, u176, u177, u178, u179, u180, u181, u182, u183, u184, u185, u186, u187, u188, u189, u190, u191, u192, u193, u194, u195], []⟩ W := by
  have S := Lib.hid h
  clear h
  conv => arg 2; whnf
  go_wp2_with fail
  go_loopw [7, 18] (fun okv v wr => ∃ k : Nat, k ≤ 2 ∧ v = .int .i64 k ∧ okv = .bool true ∧ Hid (CR w wr 2 A D M mo R N V L)) (fun _ v _ => 2 - (intOf v).toNat)
  case atStart => exact ⟨0, by omega, rfl, rfl, S⟩
  case round =>
    clear S
    obtain ⟨k, hk, rfl, rfl, S⟩ := hrel
    by_cases hlt : k < 2
    · have xA := S.out.cA hlt
      have xD := S.out.cD hlt
      have k0 : (0 : Int) ≤ (k : Int) := Int.natCast_nonneg _
      have k1 : (k : Int) < 2 := by omega
      cases hf : fin (mo k) with
      | false =>
        rw [hf, if_neg (by simp)] at xA
        clear hf
        go_wp2
        exact ⟨⟨k + 1, by omega, by go_num, rfl, S⟩, by simp [intOf]; omega⟩
      | true =>
        rw [hf, if_pos rfl] at xA
        have HF := Lib.hid hf
        have KN := Lib.hid (S.out.now hlt hf)
        have KL := Lib.hid (fun W2 (h : CR w W2 2 A D M mo R N V L) => h.len hlt hf)
        have sm := S.out.small hlt hf
        obtain ⟨X, hX⟩ : ∃ X, lastN (mo k).toNat (L k) = X := ⟨_, rfl⟩
        rw [hX] at KN KL sm
        clear hf
        go_wp2_with fail
        refine KN.out.mono ?_
        rintro e w2 ⟨A', c', rfl, hr, hB⟩
        have S2 := Lib.hid (S.out.to hB)
        have T2 := Lib.hid hr
        have xA2 := S2.out.cA hlt
        rw [HF.out, if_pos rfl] at xA2
        clear hr hB S KN xA xD
        have e0 : ((X.length : Int) == (X.length : Int)) = true := by simp
        go_wp2_with fail
        refine (KL.out w2 S2.out).mono ?_
        rintro e w3 ⟨rfl, rfl⟩
        go_wp2_with fail
        clear e0
        go_loopw [7, 20] (fun okv v wr => ∃ i : Nat, i ≤ X.length + 2 ∧ v = .int .i64 ((i : Int) - 1) ∧ okv = .bool true ∧ Hid (CR w wr 2 A D M mo R N V L) ∧ Hid (Rd wr A' X)) (fun _ v _ => X.length + 1 - (intOf v) |>.toNat)
        case atStart => exact ⟨0, by omega, rfl, rfl, S2, T2⟩
        case round =>
          clear S2 T2 xA2
          obtain ⟨i, hi, rfl, rfl, S, T⟩ := hrel
          by_cases hlt2 : i < X.length + 2
          · have xA := S.out.cA hlt
            rw [HF.out, if_pos rfl] at xA
            have KA := Lib.hid (ask_calls (R k) (mo k).toNat c' A' X ((i : Int) - 1) _ (by rw [← hX]; exact (S.out.ring k hlt HF.out).2) T.out)
            go_wp2_with fail
            refine KA.out.mono ?_
            rintro e w5 ⟨rfl, hB⟩
            have S5 := Lib.hid (S.out.to hB)
            have T5 := Lib.hid (T.out.below hB)
            clear hB S T xA KA
            go_wp2
            exact ⟨⟨i + 1, by omega, by go_num, rfl, S5, T5⟩, by simp [intOf]; omega⟩
          · obtain rfl : i = X.length + 2 := by omega
            go_wp2
            exact ⟨⟨k + 1, by omega, by go_num, rfl, S⟩, by simp [intOf]; omega⟩
    · obtain rfl : k = 2 := by omega
      go_wp2
      go_ret
      exact ⟨rfl, S.out.below⟩
end Go.Proofs.Yteajaakhdnlpeaa.Q
