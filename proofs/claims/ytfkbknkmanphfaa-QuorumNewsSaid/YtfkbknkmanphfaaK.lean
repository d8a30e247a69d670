import Derived.Test.YtfkbknkmanphfaaI
import Derived.Test.YtfkbknkmanphfaaJ
namespace Go.Proofs.Ytfkbknkmanphfaa.Q
open Go.RowKit Go.Proofs.YtfkbknkmanphfaaW.PrintWords Go.Sort
set_option linter.unusedVariables false
set_option linter.unusedSimpArgs false

theorem put_any (a b : Nat) (ws gs : List Int) (f : Nat → Ak) (w : World) (h : Acks w a b ws gs f) (p : Pt) (hp : -128 ≤ p.s ∧ p.s ≤ 127) :
    Calls Try.prog 14 #[.pointer (some ⟨a, 0, none⟩), .int .i8 p.s, .agg #[.int .u32 p.e, .int .u32 p.n]] w fun e w' => e = .returned (.int .i64 (if validB ws p.s then 0 else 1)) ∧ Only (fun k => k = a) w w' ∧ Acks w' a b ws gs (putX ws f p) := by
  cases hv : validB ws p.s with
  | false =>
    refine (put_no a b ws gs f w h p.s p.e p.n hp hv).mono ?_
    rintro e w' ⟨rfl, hB⟩
    refine ⟨rfl, Only.of_below hB, ?_⟩
    unfold putX
    rw [hv]
    exact h.below hB
  | true =>
    have hv2 : 0 ≤ p.s ∧ p.s < ws.length := by simpa [validB] using hv
    obtain ⟨m, hm⟩ := Int.eq_ofNat_of_zero_le hv2.1
    have K := put_yes a b ws gs f w h m p.e p.n (by omega)
    rw [← hm] at K
    refine K.mono ?_
    rintro e w' ⟨rfl, hO, hk⟩
    refine ⟨rfl, hO, ?_⟩
    unfold putX
    rw [hv, if_pos rfl, show p.s.toNat = m by omega]
    exact h.after hO hk
theorem of_any (a b : Nat) (ws gs : List Int) (f : Nat → Ak) (w : World) (h : Acks w a b ws gs f) (hf : Fin ws f) (k : Nat) (hk : k < 128) :
    Calls Try.prog 19 #[.pointer (some ⟨a, 0, none⟩), .int .i8 k] w fun e w' => e = .returned (.tuple #[.agg #[.int .u32 (f k).e, .int .u32 (f k).n], .bool (f k).s]) ∧ Below w.heap.size w w' := by
  by_cases hm : k < ws.length
  · exact of_yes a b ws gs f w h k hm
  · rw [hf k (by omega)]
    exact of_no a b ws gs f w h k (by omega) (by simp [validB]; omega)
/-- the reference's Compare -/
theorem cmpR_calls (e1 n1 e2 n2 : Int) (w : World) :
    Calls Try.prog 18 #[.agg #[.int .u32 e1, .int .u32 n1], .agg #[.int .u32 e2, .int .u32 n2]] w fun e w' => e = .returned (.int .i64 (cmpZ e1 n1 e2 n2)) ∧ Below w.heap.size w w' := by
  have hB := Lib.hid (below_alloc (below_alloc (Below.refl w.heap.size w) (Obj.cells #[.int .u32 e1, .int .u32 n1] 44)) (Obj.cells #[.int .u32 e2, .int .u32 n2] 44))
  by_cases h1 : e1 < e2
  · have hv : Hid (cmpZ e1 n1 e2 n2 = -1) := Lib.hid (by simp [cmpZ, h1])
    go_enter Try.func18, Try.ntmps18
    go_wp2
    go_ret
    exact ⟨by rw [hv.out]; rfl, hB.out⟩
  · by_cases h2 : e2 < e1
    · have hv : Hid (cmpZ e1 n1 e2 n2 = 1) := Lib.hid (by simp [cmpZ, h1, h2])
      have h3 : (e1 == e2) = false := by rw [beq_eq_false_iff_ne]; omega
      go_enter Try.func18, Try.ntmps18
      go_wp2
      go_ret
      exact ⟨by rw [hv.out]; rfl, hB.out⟩
    · obtain rfl : e1 = e2 := by omega
      by_cases h3 : n1 < n2
      · have hv : Hid (cmpZ e1 n1 e1 n2 = -1) := Lib.hid (by simp [cmpZ, h3])
        go_enter Try.func18, Try.ntmps18
        go_wp2
        go_ret
        exact ⟨by rw [hv.out]; rfl, hB.out⟩
      · by_cases h4 : n2 < n1
        · have hv : Hid (cmpZ e1 n1 e1 n2 = 1) := Lib.hid (by simp [cmpZ, h3, h4])
          have h5 : (n1 == n2) = false := by rw [beq_eq_false_iff_ne]; omega
          go_enter Try.func18, Try.ntmps18
          go_wp2
          go_ret
          exact ⟨by rw [hv.out]; rfl, hB.out⟩
        · obtain rfl : n1 = n2 := by omega
          have hv : Hid (cmpZ e1 n1 e1 n1 = 0) := Lib.hid (by simp [cmpZ])
          go_enter Try.func18, Try.ntmps18
          go_wp2
          go_ret
          exact ⟨by rw [hv.out]; rfl, hB.out⟩
end Go.Proofs.Ytfkbknkmanphfaa.Q
