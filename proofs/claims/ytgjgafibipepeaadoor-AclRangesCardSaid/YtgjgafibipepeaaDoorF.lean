import Derived.Test.YtgjgafibipepeaaDoorE
namespace Go.Proofs.YtgjgafibipepeaaDoor.Q
open Go.RowKit Go.Proofs.YtgjgafibipepeaaDoorW.PrintWords Go.Deep Go.Maps Go.WideShapes Go.Lib
set_option linter.unusedVariables false
set_option linter.unusedSimpArgs false
attribute [local go_sem] Oper.semAt_some

/-! THE FIRST BITS -/
theorem and_all : (∀ a, a < 256 → a &&& 0 = a / 256 * 256) ∧ (∀ a, a < 256 → a &&& 128 = a / 128 * 128) ∧ (∀ a, a < 256 → a &&& 192 = a / 64 * 64) ∧ (∀ a, a < 256 → a &&& 224 = a / 32 * 32) ∧ (∀ a, a < 256 → a &&& 240 = a / 16 * 16) ∧ (∀ a, a < 256 → a &&& 248 = a / 8 * 8) ∧ (∀ a, a < 256 → a &&& 252 = a / 4 * 4) ∧ (∀ a, a < 256 → a &&& 254 = a / 2 * 2) ∧ (∀ a, a < 256 → a &&& 255 = a / 1 * 1) := by decide +kernel
theorem topI {a k : Nat} (ha : a ≤ 255) (hk : k ≤ 8) : bits .and .u8 (a : Int) (bits .xor .u8 (if IntKind.u8.signed = true then -1 else IntKind.u8.max) (255 / 2 ^ k)) = (top k a : Nat) := by
  obtain ⟨h0, h1, h2, h3, h4, h5, h6, h7, h8⟩ := and_all
  have h9 : k = 0 ∨ k = 1 ∨ k = 2 ∨ k = 3 ∨ k = 4 ∨ k = 5 ∨ k = 6 ∨ k = 7 ∨ k = 8 := by omega
  unfold top
  rcases h9 with rfl | rfl | rfl | rfl | rfl | rfl | rfl | rfl | rfl
  · rw [show bits .xor .u8 (if IntKind.u8.signed = true then -1 else IntKind.u8.max) (255 / 2 ^ 0) = ((0 : Nat) : Int) by decide +kernel, u8_and_nat a 0 (by omega) (by omega), h0 a (by omega)]
  · rw [show bits .xor .u8 (if IntKind.u8.signed = true then -1 else IntKind.u8.max) (255 / 2 ^ 1) = ((128 : Nat) : Int) by decide +kernel, u8_and_nat a 128 (by omega) (by omega), h1 a (by omega)]
  · rw [show bits .xor .u8 (if IntKind.u8.signed = true then -1 else IntKind.u8.max) (255 / 2 ^ 2) = ((192 : Nat) : Int) by decide +kernel, u8_and_nat a 192 (by omega) (by omega), h2 a (by omega)]
  · rw [show bits .xor .u8 (if IntKind.u8.signed = true then -1 else IntKind.u8.max) (255 / 2 ^ 3) = ((224 : Nat) : Int) by decide +kernel, u8_and_nat a 224 (by omega) (by omega), h3 a (by omega)]
  · rw [show bits .xor .u8 (if IntKind.u8.signed = true then -1 else IntKind.u8.max) (255 / 2 ^ 4) = ((240 : Nat) : Int) by decide +kernel, u8_and_nat a 240 (by omega) (by omega), h4 a (by omega)]
  · rw [show bits .xor .u8 (if IntKind.u8.signed = true then -1 else IntKind.u8.max) (255 / 2 ^ 5) = ((248 : Nat) : Int) by decide +kernel, u8_and_nat a 248 (by omega) (by omega), h5 a (by omega)]
  · rw [show bits .xor .u8 (if IntKind.u8.signed = true then -1 else IntKind.u8.max) (255 / 2 ^ 6) = ((252 : Nat) : Int) by decide +kernel, u8_and_nat a 252 (by omega) (by omega), h6 a (by omega)]
  · rw [show bits .xor .u8 (if IntKind.u8.signed = true then -1 else IntKind.u8.max) (255 / 2 ^ 7) = ((254 : Nat) : Int) by decide +kernel, u8_and_nat a 254 (by omega) (by omega), h7 a (by omega)]
  · rw [show bits .xor .u8 (if IntKind.u8.signed = true then -1 else IntKind.u8.max) (255 / 2 ^ 8) = ((255 : Nat) : Int) by decide +kernel, u8_and_nat a 255 (by omega) (by omega), h8 a (by omega)]
theorem topI2 {a k : Nat} (ha : a ≤ 255) (hk : k ≤ 8) : bits .and .u8 (a : Int) (bits .xor .u8 IntKind.u8.max (255 / 2 ^ k)) = (top k a : Nat) := topI ha hk
set_option maxRecDepth 100000 in
set_option maxHeartbeats 8000000 in
theorem cut_calls (q : Quad) (n : Nat) (w : World) (hn : n ≤ 32) (hq : small q) :
    Calls Tryd.prog 54 #[quadV q, .int .i64 n] w fun e w' => e = .returned (quadV (cutQ n q)) ∧ Below w.heap.size w w' := by
  obtain ⟨a, b, c, d⟩ := q
  obtain ⟨h1, h2, h3, h4⟩ := hq
  simp only at h1 h2 h3 h4
  unfold quadV byteV
  obtain ⟨W0, hW0⟩ : ∃ V, (w.alloc (.cells #[.int .u8 a, .int .u8 b, .int .u8 c, .int .u8 d] 22)).alloc (.cells #[.int .u8 0, .int .u8 0, .int .u8 0, .int .u8 0] 22) = V := ⟨_, rfl⟩
  have hB0 : Below w.heap.size w W0 := hW0 ▸ below_alloc (below_alloc (Below.refl _ w) _) _
  have hq0 : W0.heap[w.heap.size]? = some (.cells #[.int .u8 a, .int .u8 b, .int .u8 c, .int .u8 d] 22 (0, 0)) := hW0 ▸ (Below.heap_alloc _ _ _ (by simp)).trans (World.alloc_heap_new w _)
  have hr0 : W0.heap[w.heap.size + 1]? = some (.cells #[.int .u8 0, .int .u8 0, .int .u8 0, .int .u8 0] 22 (0, 0)) := by
    have := World.alloc_heap_new (w.alloc (.cells #[.int .u8 a, .int .u8 b, .int .u8 c, .int .u8 d] 22)) (.cells #[.int .u8 0, .int .u8 0, .int .u8 0, .int .u8 0] 22)
    rw [World.size_alloc] at this
    rw [← hW0]; exact this
  obtain ⟨g, hg⟩ : ∃ g, w.heap.size = g := ⟨_, rfl⟩
  have HG := Lib.hid hg
  have HQ := Lib.hid (And.intro hB0 (And.intro hq0 hr0))
  clear hB0 hq0 hr0 hg
  go_enter Tryd.func54, Tryd.ntmps54
  go_wp2_with fail
  clear hW0
  refine wp_loop_rounds 5 ?_
  rw [rounds_succ]
  have hq := HQ.out.2.1
  have cc := cell_row (k := 0) (v := .int .u8 a) hq rfl
  have ff := frozen_of_row W0 w.heap.size 0 _ _ hq
  go_wp2_with fail
  obtain ⟨k0, hk, hk80⟩ : ∃ k : Nat, min (n : Int) 8 = k ∧ k ≤ 8 := ⟨min (n - 0) 8, by omega, by omega⟩
  rw [hk]
  have HK0 := Lib.hid (show k0 = keep n 0 by unfold keep; omega)
  have hkI : (k0 : Int) ≤ 8 := by omega
  have hk0 : (0 : Int) ≤ k0 := by omega
  clear hk
  go_still_tail 8, (by kernel_rfl)
  first | rw [topI (by omega) hk80] | rw [topI2 (by omega) hk80]
  go_wp2_with fail
  obtain ⟨x0, hx0⟩ : ∃ x, top k0 a = x := ⟨_, rfl⟩
  rw [hx0]
  have HX0 := Lib.hid hx0
  obtain ⟨W1, hW1⟩ : ∃ V, World.drew (W0.setCell ⟨w.heap.size, 0, none⟩ (.int .u8 x0)) = V := ⟨_, rfl⟩
  have hBn : Below w.heap.size w W1 := hW1 ▸ (HQ.out.1.setCell (p := ⟨w.heap.size, 0, none⟩) (Nat.le_refl _) _).drew
  have hqn := heap_setCell_same W0 w.heap.size 0 _ _ (.int .u8 x0) hq
  have hrn := (Below.heap_setCell W0 ⟨w.heap.size, 0, none⟩ (.int .u8 x0) (w.heap.size + 1) (by simp)).trans HQ.out.2.2
  rw [hW1]
  replace HQ := Lib.hid (And.intro hBn (And.intro (show W1.heap[w.heap.size]? = some (.cells #[.int .u8 x0, .int .u8 b, .int .u8 c, .int .u8 d] 22 (0, 0)) by rw [← hW1]; exact hqn) (show W1.heap[w.heap.size + 1]? = some (.cells #[.int .u8 0, .int .u8 0, .int .u8 0, .int .u8 0] 22 (0, 0)) by rw [← hW1]; exact hrn)))
  clear hBn hqn hrn hW1 hq cc ff hx0 hkI hk0
  rw [rounds_succ]
  have hq := HQ.out.2.1
  have cc := cell_row (k := 1) (v := .int .u8 b) hq rfl
  have ff := frozen_of_row W1 w.heap.size 1 _ _ hq
  go_wp2_with fail
  obtain ⟨k1, hk, hk81⟩ : ∃ k : Nat, min (max ((n : Int) - 8) 0) 8 = k ∧ k ≤ 8 := ⟨min (n - 8) 8, by omega, by omega⟩
  rw [hk]
  have HK1 := Lib.hid (show k1 = keep n 1 by unfold keep; omega)
  have hkI : (k1 : Int) ≤ 8 := by omega
  have hk0 : (0 : Int) ≤ k1 := by omega
  clear hk
  go_still_tail 8, (by kernel_rfl)
  first | rw [topI (by omega) hk81] | rw [topI2 (by omega) hk81]
  go_wp2_with fail
  obtain ⟨x1, hx1⟩ : ∃ x, top k1 b = x := ⟨_, rfl⟩
  rw [hx1]
  have HX1 := Lib.hid hx1
  obtain ⟨W2, hW2⟩ : ∃ V, World.drew (W1.setCell ⟨w.heap.size, 1, none⟩ (.int .u8 x1)) = V := ⟨_, rfl⟩
  have hBn : Below w.heap.size w W2 := hW2 ▸ (HQ.out.1.setCell (p := ⟨w.heap.size, 1, none⟩) (Nat.le_refl _) _).drew
  have hqn := heap_setCell_same W1 w.heap.size 1 _ _ (.int .u8 x1) hq
  have hrn := (Below.heap_setCell W1 ⟨w.heap.size, 1, none⟩ (.int .u8 x1) (w.heap.size + 1) (by simp)).trans HQ.out.2.2
  rw [hW2]
  replace HQ := Lib.hid (And.intro hBn (And.intro (show W2.heap[w.heap.size]? = some (.cells #[.int .u8 x0, .int .u8 x1, .int .u8 c, .int .u8 d] 22 (0, 0)) by rw [← hW2]; exact hqn) (show W2.heap[w.heap.size + 1]? = some (.cells #[.int .u8 0, .int .u8 0, .int .u8 0, .int .u8 0] 22 (0, 0)) by rw [← hW2]; exact hrn)))
  clear hBn hqn hrn hW2 hq cc ff hx1 hkI hk0
  rw [rounds_succ]
  have hq := HQ.out.2.1
  have cc := cell_row (k := 2) (v := .int .u8 c) hq rfl
  have ff := frozen_of_row W2 w.heap.size 2 _ _ hq
  go_wp2_with fail
  obtain ⟨k2, hk, hk82⟩ : ∃ k : Nat, min (max ((n : Int) - 16) 0) 8 = k ∧ k ≤ 8 := ⟨min (n - 16) 8, by omega, by omega⟩
  rw [hk]
  have HK2 := Lib.hid (show k2 = keep n 2 by unfold keep; omega)
  have hkI : (k2 : Int) ≤ 8 := by omega
  have hk0 : (0 : Int) ≤ k2 := by omega
  clear hk
  go_still_tail 8, (by kernel_rfl)
  first | rw [topI (by omega) hk82] | rw [topI2 (by omega) hk82]
  go_wp2_with fail
  obtain ⟨x2, hx2⟩ : ∃ x, top k2 c = x := ⟨_, rfl⟩
  rw [hx2]
  have HX2 := Lib.hid hx2
  obtain ⟨W3, hW3⟩ : ∃ V, World.drew (W2.setCell ⟨w.heap.size, 2, none⟩ (.int .u8 x2)) = V := ⟨_, rfl⟩
  have hBn : Below w.heap.size w W3 := hW3 ▸ (HQ.out.1.setCell (p := ⟨w.heap.size, 2, none⟩) (Nat.le_refl _) _).drew
  have hqn := heap_setCell_same W2 w.heap.size 2 _ _ (.int .u8 x2) hq
  have hrn := (Below.heap_setCell W2 ⟨w.heap.size, 2, none⟩ (.int .u8 x2) (w.heap.size + 1) (by simp)).trans HQ.out.2.2
  rw [hW3]
  replace HQ := Lib.hid (And.intro hBn (And.intro (show W3.heap[w.heap.size]? = some (.cells #[.int .u8 x0, .int .u8 x1, .int .u8 x2, .int .u8 d] 22 (0, 0)) by rw [← hW3]; exact hqn) (show W3.heap[w.heap.size + 1]? = some (.cells #[.int .u8 0, .int .u8 0, .int .u8 0, .int .u8 0] 22 (0, 0)) by rw [← hW3]; exact hrn)))
  clear hBn hqn hrn hW3 hq cc ff hx2 hkI hk0
  rw [rounds_succ]
  have hq := HQ.out.2.1
  have cc := cell_row (k := 3) (v := .int .u8 d) hq rfl
  have ff := frozen_of_row W3 w.heap.size 3 _ _ hq
  go_wp2_with fail
  obtain ⟨k3, hk, hk83⟩ : ∃ k : Nat, min (max ((n : Int) - 24) 0) 8 = k ∧ k ≤ 8 := ⟨min (n - 24) 8, by omega, by omega⟩
  rw [hk]
  have HK3 := Lib.hid (show k3 = keep n 3 by unfold keep; omega)
  have hkI : (k3 : Int) ≤ 8 := by omega
  have hk0 : (0 : Int) ≤ k3 := by omega
  clear hk
  go_still_tail 8, (by kernel_rfl)
  first | rw [topI (by omega) hk83] | rw [topI2 (by omega) hk83]
  go_wp2_with fail
  obtain ⟨x3, hx3⟩ : ∃ x, top k3 d = x := ⟨_, rfl⟩
  rw [hx3]
  have HX3 := Lib.hid hx3
  obtain ⟨W4, hW4⟩ : ∃ V, World.drew (W3.setCell ⟨w.heap.size, 3, none⟩ (.int .u8 x3)) = V := ⟨_, rfl⟩
  have hBn : Below w.heap.size w W4 := hW4 ▸ (HQ.out.1.setCell (p := ⟨w.heap.size, 3, none⟩) (Nat.le_refl _) _).drew
  have hqn := heap_setCell_same W3 w.heap.size 3 _ _ (.int .u8 x3) hq
  have hrn := (Below.heap_setCell W3 ⟨w.heap.size, 3, none⟩ (.int .u8 x3) (w.heap.size + 1) (by simp)).trans HQ.out.2.2
  rw [hW4]
  replace HQ := Lib.hid (And.intro hBn (And.intro (show W4.heap[w.heap.size]? = some (.cells #[.int .u8 x0, .int .u8 x1, .int .u8 x2, .int .u8 x3] 22 (0, 0)) by rw [← hW4]; exact hqn) (show W4.heap[w.heap.size + 1]? = some (.cells #[.int .u8 0, .int .u8 0, .int .u8 0, .int .u8 0] 22 (0, 0)) by rw [← hW4]; exact hrn)))
  clear hBn hqn hrn hW4 hq cc ff hx3 hkI hk0
  rw [rounds_succ]
  have hq := HQ.out.2.1
  have hr := HQ.out.2.2
  have e0 := cell_row (k := 0) (v := .int .u8 x0) hq rfl
  have e1 := cell_row (k := 1) (v := .int .u8 x1) hq rfl
  have e2 := cell_row (k := 2) (v := .int .u8 x2) hq rfl
  have e3 := cell_row (k := 3) (v := .int .u8 x3) hq rfl
  have c0 := cell_row (k := 0) (v := .int .u8 0) hr rfl
  have c1 := cell_row (k := 1) (v := .int .u8 0) hr rfl
  have c2 := cell_row (k := 2) (v := .int .u8 0) hr rfl
  have c3 := cell_row (k := 3) (v := .int .u8 0) hr rfl
  have f0 := frozen_of_row W4 (w.heap.size + 1) 0 _ _ hr
  have f1 := frozen_of_row W4 (w.heap.size + 1) 1 _ _ hr
  have f2 := frozen_of_row W4 (w.heap.size + 1) 2 _ _ hr
  have f3 := frozen_of_row W4 (w.heap.size + 1) 3 _ _ hr
  clear hq hr
  go_wp2
  have hh := set4 HQ.out.2.2 (x := .int .u8 x0) (y := .int .u8 x1) (z := .int .u8 x2) (u := .int .u8 x3)
  have d0 := cell_row (k := 0) (v := .int .u8 x0) hh rfl
  have d1 := cell_row (k := 1) (v := .int .u8 x1) hh rfl
  have d2 := cell_row (k := 2) (v := .int .u8 x2) hh rfl
  have d3 := cell_row (k := 3) (v := .int .u8 x3) hh rfl
  have hfin : quadV (cutQ n (a, b, c, d)) = .agg #[.int .u8 x0, .int .u8 x1, .int .u8 x2, .int .u8 x3] := by
    unfold quadV cutQ byteV
    simp only
    rw [← HK0.out, ← HK1.out, ← HK2.out, ← HK3.out, HX0.out, HX1.out, HX2.out, HX3.out]
  refine bodyPost_ret (v := .agg #[.int .u8 x0, .int .u8 x1, .int .u8 x2, .int .u8 x3]) (by simp [results, Tryd.results54, go_sem, d0, d1, d2, d3]) rfl ⟨congrArg Ending.returned hfin.symm, ?_⟩
  exact below_set4 HQ.out.1 (by omega)
end Go.Proofs.YtgjgafibipepeaaDoor.Q
