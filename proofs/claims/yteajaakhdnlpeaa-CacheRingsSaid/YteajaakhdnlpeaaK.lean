import Derived.Test.YteajaakhdnlpeaaJ
namespace Go.Proofs.Yteajaakhdnlpeaa.Q
open Go.RowKit Go.Proofs.YteajaakhdnlpeaaW.PrintWords Go.Deep
set_option linter.unusedVariables false
set_option linter.unusedSimpArgs false

def two (a b : Int) (k : Nat) : Int := if k = 0 then a else b
theorem pair_get (a b : Value) (f : Nat → Value) (h0 : f 0 = a) (h1 : f 1 = b) : ∀ i, i < (#[a, b] : Array Value).size → (#[a, b] : Array Value)[i]? = some (f i) := fun i hi => by
  have : i = 0 ∨ i = 1 := by simp at hi; omega
  rcases this with rfl | rfl
  · simp [h0]
  · simp [h1]
theorem start (w W1 : World) (a b : Int) (hB : Below w.heap.size w W1) :
    CR w (((W1.alloc (.cells #[.pointer none, .pointer none] 25)).alloc (.cells #[.pointer none, .pointer none] 27)).alloc (.cells #[.int .i64 a, .int .i64 b] 28)) 0 W1.heap.size (W1.heap.size + 1) (W1.heap.size + 2) (two a b) (fun _ => 0) (fun _ => 0) (fun _ => .slice none 0 0) (fun _ => []) := by
  have e1 : (W1.alloc (.cells #[.pointer none, .pointer none] 25)).heap.size = W1.heap.size + 1 := by simp
  have e2 : ((W1.alloc (.cells #[.pointer none, .pointer none] 25)).alloc (.cells #[.pointer none, .pointer none] 27)).heap.size = W1.heap.size + 2 := by simp
  have hs := hB.size
  refine ⟨below_alloc (below_alloc (below_alloc hB _) _) _, ?_, ?_, ?_, ⟨hs, by omega⟩, fun k hk => by omega, fun k hk => by omega, fun k hk => by omega, fun i k hi => by omega, fun i k hi => by omega, fun i k g hi => by omega⟩
  · exact ((World.rowIs_alloc W1 #[.pointer none, .pointer none] 25 _ (pair_get _ _ _ (by simp) (by simp))).alloc _).alloc _
  · have := (World.rowIs_alloc (W1.alloc (.cells #[.pointer none, .pointer none] 25)) #[.pointer none, .pointer none] 27 (fun k => .pointer (if k < 0 then some ⟨(fun _ => 0) k, 0, none⟩ else none)) (pair_get _ _ _ (by simp) (by simp))).alloc (.cells #[.int .i64 a, .int .i64 b] 28)
    rwa [e1] at this
  · have := World.rowIs_alloc ((W1.alloc (.cells #[.pointer none, .pointer none] 25)).alloc (.cells #[.pointer none, .pointer none] 27)) #[.int .i64 a, .int .i64 b] 28 (fun k => .int .i64 (two a b k)) (pair_get _ _ _ (by simp [two]) (by simp [two]))
    rwa [e2] at this

set_option maxRecDepth 100000 in
set_option maxHeartbeats 8000000 in
theorem rings_long (a b : Int) (A : Option Addr) (n c : Nat) (w : World) (h : 4194304 < n) (h2 : n ≤ 9223372036854775807) :
    Calls Try.prog 3 #[.int .i64 a, .int .i64 b, .slice A n c] w fun e w' => e = .returned (.bool true) ∧ Below w.heap.size w w' := by
  go_enter Try.func3, Try.ntmps3
  go_wp2_with fail
  refine (works_calls w).mono ?_
  rintro e w1 ⟨rfl, hB⟩
  have HB := Lib.hid hB
  clear hB
  go_wp2
  go_ret
  exact ⟨rfl, HB.out⟩
set_option maxRecDepth 1000000 in
set_option maxHeartbeats 16000000 in
theorem rings_yes (a b : Int) (Ao : Option Addr) (co : Nat) (os : List OpV) (w : World) (hO : RdO w Ao os) (hos : os.length ≤ 4194304) :
    Calls Try.prog 3 #[.int .i64 a, .int .i64 b, .slice Ao os.length co] w fun e w' => e = .returned (.bool true) ∧ Below w.heap.size w w' := by
  have HO := Lib.hid hO
  clear hO
  go_enter Try.func3, Try.ntmps3
  go_wp2_with fail
  refine (works_calls w).mono ?_
  rintro e w1 ⟨rfl, hB⟩
  have S0 := start w w1 a b hB
  clear hB
  go_wp2_with fail
  obtain ⟨W2, hW2⟩ : ∃ W, ((w1.alloc (.cells #[.pointer none, .pointer none] 25)).alloc (.cells #[.pointer none, .pointer none] 27)).alloc (.cells #[.int .i64 a, .int .i64 b] 28) = W := ⟨_, rfl⟩
  rw [hW2] at S0 ⊢
  obtain ⟨A, hA⟩ : ∃ A, w1.heap.size = A := ⟨_, rfl⟩
  rw [hA] at S0 ⊢
  obtain ⟨mo, hmo⟩ : ∃ mo, two a b = mo := ⟨_, rfl⟩
  rw [hmo] at S0
  have S := Lib.hid (show ∃ R N, CR w W2 0 A (A + 1) (A + 2) mo R N (fun _ => .slice none 0 0) (fun _ => []) from ⟨_, _, S0⟩)
  clear S0 hW2 hA hmo
  rename_i K aK
  have HX := Lib.hid aK
  clear aK
  go_loopw [11] (fun v wr => ∃ j : Nat, j ≤ 2 ∧ v = .int .i64 j ∧ Hid (∃ R N, CR w wr j A (A + 1) (A + 2) mo R N (fun _ => .slice none 0 0) (fun _ => []))) (fun v _ => 2 - (intOf v).toNat)
  case atStart => exact ⟨0, by omega, rfl, S⟩
  case round =>
    clear S
    obtain ⟨j, hj, rfl, S⟩ := hrel
    obtain ⟨R, N, hS⟩ := S.out
    clear S
    by_cases hlt : j < 2
    · have k0 : (0 : Int) ≤ (j : Int) := Int.natCast_nonneg _
      have k1 : (j : Int) < 2 := by omega
      have S1 := Lib.hid hS
      have xM := hS.rm.cell hlt
      clear hS
      by_cases hf : 0 ≤ mo j ∧ mo j ≤ 64
      · have HF := Lib.hid ((fin_iff _).2 hf)
        have KN := Lib.hid (new_int (mo j) wr hf)
        obtain ⟨f0, f1⟩ := hf
        obtain ⟨m, hm⟩ : ∃ m, mo j = m := ⟨_, rfl⟩
        have HM := Lib.hid hm
        rw [hm] at xM KN f0 f1
        clear hm
        go_wp2_with fail
        refine KN.out.mono ?_
        rintro e w2 ⟨rfl, hr, hB⟩
        have S2 := Lib.hid (S1.out.add hlt hB (fun _ => by rw [HM.out]; exact hr))
        have h2 := S1.out.to hB
        have xM2 : w2.cell? ⟨A + 2, j, none⟩ = some (.int .i64 m) := by rw [h2.rm.cell hlt, HM.out]
        have xA2 := h2.ra.cell hlt
        have zA2 := h2.ra.frozen j
        have xD2 := h2.rd.cell hlt
        have zD2 := h2.rd.frozen j
        have lA := h2.ra.lt
        have lD := h2.rd.lt
        have lM := h2.rm.lt
        rw [HM.out, if_pos (by rw [← HM.out]; exact HF.out), World.setCell_alloc_past _ _ _ _ (by simp [World.setCell]; omega)] at S2
        clear hr hB h2 xM KN HF
        go_wp2
        exact ⟨⟨j + 1, by omega, by go_num, Lib.hid ⟨_, _, S2.out⟩⟩, by simp [intOf]; omega⟩
      · have HF : Hid (¬ fin (mo j) = true) := Lib.hid (fun h => hf ((fin_iff _).1 h))
        have KN := Lib.hid (newno_int (mo j) wr hf)
        obtain ⟨m, hm⟩ : ∃ m, mo j = m := ⟨_, rfl⟩
        have HM := Lib.hid hm
        rw [hm] at xM KN hf
        have S2 := Lib.hid (S1.out.add hlt (Below.refl _ _) (fun h => absurd h HF.out))
        have h2 := S1.out
        have xA2 := h2.ra.cell hlt
        have zA2 := h2.ra.frozen j
        have xD2 := h2.rd.cell hlt
        have zD2 := h2.rd.frozen j
        have lA := h2.ra.lt
        have lD := h2.rd.lt
        have lM := h2.rm.lt
        rw [if_neg HF.out, HM.out, World.setCell_alloc_past _ _ _ _ (by simp [World.setCell]; omega)] at S2
        clear hm h2
        by_cases f0 : m < 0
        · go_wp2_with fail
          refine KN.out.mono ?_
          rintro e w2 ⟨rfl, rfl⟩
          clear KN HF
          go_wp2
          exact ⟨⟨j + 1, by omega, by go_num, Lib.hid ⟨_, _, S2.out⟩⟩, by simp [intOf]; omega⟩
        · have f1 : 64 < m := by omega
          go_wp2_with fail
          refine KN.out.mono ?_
          rintro e w2 ⟨rfl, rfl⟩
          clear KN HF
          go_wp2
          exact ⟨⟨j + 1, by omega, by go_num, Lib.hid ⟨_, _, S2.out⟩⟩, by simp [intOf]; omega⟩
    · obtain rfl : j = 2 := by omega
      go_wp2_with fail
      refine HX.out _ _ ?_
      exact r16 Ao co os hS (fun _ => rfl) HO.out hos _ _ _ _ _ _ _ _ _ _ _ _ _ _ _ _ _ _ _ _ _ _ _ _ _ _ _ _ _ _ _ _ _ _ _ _ _ _ _ _ _ _ _ _ _ _ _ _ _ _ _ _ _ _ _ _ _ _ _ _ _ _ _ _ _ _ _ _ _ _ _ _ _ _ _ _ _ _ _ _ _ _ _ _ _ _ _ _ _ _ _ _ _ _ _ _ _ _ _ _ _ _ _ _ _ _ _ _ _ _ _ _ _ _ _ _ _ _ _ _ _ _ _ _ _ _ _ _ _ _ _ _ _ _ _ _ _ _ _ _ _ _ _ _ _ _ _ _ _ _ _ _ _ _ _ _ _ _ _ _ _ _ _ _ _ _ _ _ _ _ _ _ _ _ _ _ _ _ _ _ _ _ _ _ _ _ _ _ _ _ _ _
end Go.Proofs.Yteajaakhdnlpeaa.Q
