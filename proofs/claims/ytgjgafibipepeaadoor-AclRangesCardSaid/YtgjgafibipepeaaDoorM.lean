import Derived.Test.YtgjgafibipepeaaDoorL
namespace Go.Proofs.YtgjgafibipepeaaDoor.Q
open Go.RowKit Go.Proofs.YtgjgafibipepeaaDoorW.PrintWords Go.Deep Go.Maps Go.WideShapes Go.Lib
set_option linter.unusedVariables false
set_option linter.unusedSimpArgs false
attribute [local go_sem] Oper.semAt_some

/-! THE LAW'S OWN NUMBERS AND TEXTS -/
/-- a text of bytes -/
def B (l : List UInt8) : ByteArray := ⟨l.toArray⟩
theorem B_append (a b : List UInt8) : B a ++ B b = B (a ++ b) := by
  apply ByteArray.ext
  simp [B]
theorem B_size (l : List UInt8) : (B l).size = l.length := mk_size l
theorem B_list (l : List UInt8) : (B l).data.toList = l := rfl
set_option maxRecDepth 100000 in
set_option maxHeartbeats 8000000 in
theorem lNumber_calls (n : Nat) (w : World) (hn : n ≤ 255) : Calls Tryd.prog 8 #[.int .i64 n] w fun e w' => e = .returned (.string (B (decDigits n))) ∧ Below w.heap.size w w' := by
  go_enter Tryd.func8, Tryd.ntmps8
  go_wp2_with fail
  go_loopw [0, 3] (fun vn vs wr => ∃ (m : Nat) (l : List UInt8), m ≤ 255 ∧ vn = .int .i64 m ∧ vs = .string (B l) ∧ l.length ≤ 3 ∧ Hid (decDigits n = decDigits m ++ l) ∧ Hid (Below w.heap.size w wr)) (fun vn _ _ => (intOf vn).toNat)
  case atStart => exact ⟨n, [], hn, rfl, rfl, by simp, Lib.hid (by simp), Lib.hid (Below.refl _ _)⟩
  case round =>
    obtain ⟨m, l, hm, rfl, rfl, hl, HD, HB⟩ := hrel
    by_cases h9 : 9 < m
    · have q1 : decide ((9 : Int) < (m : Int)) = true := decide_eq_true (by omega)
      have m0 : (0 : Int) ≤ (m : Int) % 10 := by omega
      have m1 : (m : Int) % 10 ≤ 9 := by omega
      have hcv := run_convert_bytes_arg (P := Tryd.prog) (wr.alloc (.cells #[.int .u8 (48 + (m : Int) % 10)] 5)) 49 5 Tryd.underlying49 Tryd.underlying5 wr.heap.size 0 1 1 [48 + (m : Int) % 10] rfl (fun i hi => by obtain rfl : i = 0 := (by omega); exact cell_row (World.alloc_heap_new wr _) rfl) 9 Tryd.underlying9
      have hsn : strOfNums [48 + (m : Int) % 10] = B [UInt8.ofNat (48 + m % 10)] := by
        unfold strOfNums B
        simp only [List.map_cons, List.map_nil]
        rw [show (48 + (m : Int) % 10).toNat = 48 + m % 10 by omega]
      rw [hsn] at hcv
      have z1 : (B [UInt8.ofNat (48 + m % 10)]).size = 1 := by rw [B_size]; rfl
      have z2 : (B l).size ≤ 3 := by rw [B_size]; exact hl
      obtain ⟨S, hS⟩ : ∃ S, B [UInt8.ofNat (48 + m % 10)] = S := ⟨_, rfl⟩
      rw [hS] at hcv z1
      obtain ⟨T, hT⟩ : ∃ T, B l = T := ⟨_, rfl⟩
      rw [hT] at z2 ⊢

      have HST : Hid (S ++ T = B (UInt8.ofNat (48 + m % 10) :: l)) := Lib.hid (by rw [← hS, ← hT, B_append]; rfl)
      have HD2 : Hid (decDigits n = decDigits (m / 10) ++ (UInt8.ofNat (48 + m % 10) :: l)) := Lib.hid (by rw [HD.out, decDigits, dif_neg (by omega)]; simp)
      have hl2 : l.length ≤ 1 := by
        have h1 := dec_len hn
        rw [HD2.out] at h1
        have h2 : (decDigits (m / 10)).length ≠ 0 := fun e => dec_ne _ (List.eq_nil_of_length_eq_zero e)
        simp at h1
        omega
      have HBn := Lib.hid (below_alloc HB.out (.cells #[.int .u8 (48 + (m : Int) % 10)] 5))
      clear hS hT hsn
      go_wp2
      refine ⟨⟨m / 10, UInt8.ofNat (48 + m % 10) :: l, by omega, by rw [show ((m / 10 : Nat) : Int) = (m : Int) / 10 by omega], by rw [HST.out], by simp; omega, HD2, HBn⟩, by simp [intOf]; omega⟩
    · have q1 : decide ((9 : Int) < (m : Int)) = false := decide_eq_false (by omega)
      have hcv := run_convert_bytes_arg (P := Tryd.prog) (wr.alloc (.cells #[.int .u8 (48 + (m : Int))] 5)) 49 5 Tryd.underlying49 Tryd.underlying5 wr.heap.size 0 1 1 [48 + (m : Int)] rfl (fun i hi => by obtain rfl : i = 0 := (by omega); exact cell_row (World.alloc_heap_new wr _) rfl) 9 Tryd.underlying9
      have hsn : strOfNums [48 + (m : Int)] = B [UInt8.ofNat (48 + m)] := by
        unfold strOfNums B
        simp only [List.map_cons, List.map_nil]
        rw [show (48 + (m : Int)).toNat = 48 + m by omega]
      rw [hsn] at hcv
      have z1 : (B [UInt8.ofNat (48 + m)]).size = 1 := by rw [B_size]; rfl
      have z2 : (B l).size ≤ 3 := by rw [B_size]; exact hl
      obtain ⟨S, hS⟩ : ∃ S, B [UInt8.ofNat (48 + m)] = S := ⟨_, rfl⟩
      rw [hS] at hcv z1
      obtain ⟨T, hT⟩ : ∃ T, B l = T := ⟨_, rfl⟩
      rw [hT] at z2 ⊢

      have HST : Hid (S ++ T = B (decDigits n)) := Lib.hid (by rw [← hS, ← hT, B_append, HD.out, decDigits, dif_pos (by omega)])
      have HBn := Lib.hid (below_alloc HB.out (.cells #[.int .u8 (48 + (m : Int))] 5))
      clear hS hT hsn
      go_wp2
      go_ret
      exact ⟨by rw [HST.out]; rfl, HBn.out⟩
end Go.Proofs.YtgjgafibipepeaaDoor.Q
