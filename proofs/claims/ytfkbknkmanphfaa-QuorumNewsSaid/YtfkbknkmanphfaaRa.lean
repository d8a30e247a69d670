import Derived.Test.YtfkbknkmanphfaaO
namespace Go.Proofs.Ytfkbknkmanphfaa.Q
open Go.RowKit Go.Proofs.YtfkbknkmanphfaaW.PrintWords Go.Sort
set_option linter.unusedVariables false
set_option linter.unusedSimpArgs false

/-! THE REFERENCE'S SYSTEM -/
structure RSys (M : Nat) (w : World) (r : Nat) (ws gs : List Int) : Prop where
  v : Valid ws gs
  mem : ∃ g1 c1 g2 c2, w.heap[r]? = some (.cells #[.slice (some ⟨g1, 0, none⟩) ws.length c1, .slice (some ⟨g2, 0, none⟩) ws.length c2] 74 (0, 0)) ∧ (M ≤ g1 ∧ g1 < r) ∧ (M ≤ g2 ∧ g2 < r) ∧
    (∀ i, i < ws.length → w.cell? ⟨g1, i, none⟩ = some (.int .i64 (ws.getD i 0))) ∧ (∀ i, i < ws.length → w.cell? ⟨g2, i, none⟩ = some (.int .i64 (gs.getD i 0)))
variable {M : Nat}
theorem RSys.keep {w w1 : World} {r : Nat} {ws gs : List Int} (h : RSys M w r ws gs) (hk : ∀ k, M ≤ k → k ≤ r → w1.heap[k]? = w.heap[k]?) : RSys M w1 r ws gs := by
  obtain ⟨v, g1, c1, g2, c2, hb, l1, l2, e1, e2⟩ := h
  exact ⟨v, g1, c1, g2, c2, (hk r (by omega) (Nat.le_refl _)).trans hb, l1, l2, fun i hi => (World.cell?_of_block (w := w) (hk g1 (by omega) (by omega))).trans (e1 i hi), fun i hi => (World.cell?_of_block (w := w) (hk g2 (by omega) (by omega))).trans (e2 i hi)⟩
theorem RSys.lt {w : World} {r : Nat} {ws gs : List Int} (h : RSys M w r ws gs) : r < w.heap.size := by
  obtain ⟨v, g1, c1, g2, c2, hb, _⟩ := h
  exact (Array.getElem?_eq_some_iff.1 hb).1
theorem RSys.below {w w1 : World} {r : Nat} {ws gs : List Int} (h : RSys M w r ws gs) (hB : Below w.heap.size w w1) : RSys M w1 r ws gs :=
  h.keep (fun k _ hk => hB.block k (Nat.lt_of_le_of_lt hk h.lt))

theorem sizeR (r : Nat) (ws gs : List Int) (w : World) (h : RSys M w r ws gs) :
    Calls Try.prog 25 #[.pointer (some ⟨r, 0, none⟩)] w fun e w' => e = .returned (.int .i64 ws.length) ∧ w = w' := by
  obtain ⟨v, g1, c1, g2, c2, hb, l1, l2, e1, e2⟩ := h
  obtain ⟨b0, b1⟩ := box44 hb
  clear hb e1 e2
  go_enter Try.func25, Try.ntmps25
  go_wp2
  go_ret
  exact ⟨rfl, rfl⟩
theorem isR (r : Nat) (ws gs : List Int) (w : World) (h : RSys M w r ws gs) (n : Int) (hn : -128 ≤ n ∧ n ≤ 127) :
    Calls Try.prog 36 #[.pointer (some ⟨r, 0, none⟩), .int .i8 n] w fun e w' => e = .returned (.bool (validB ws n)) ∧ w = w' := by
  obtain ⟨v, g1, c1, g2, c2, hb, l1, l2, e1, e2⟩ := h
  obtain ⟨b0, b1⟩ := box44 hb
  obtain ⟨n0, n1⟩ := hn
  clear hb e1 e2
  by_cases h0 : 0 ≤ n
  · go_enter Try.func36, Try.ntmps36
    go_wp2
    go_ret
    exact ⟨by unfold validB; simp [h0], rfl⟩
  · go_enter Try.func36, Try.ntmps36
    go_wp2
    go_ret
    exact ⟨by unfold validB; simp [h0]; omega, rfl⟩

theorem halves (s : Int) (k : Nat) (h0 : 0 ≤ s) : s / 2 ^ k / 2 = s / 2 ^ (k + 1) := by
  rw [Int.ediv_ediv_of_nonneg (Int.pow_nonneg (by decide)), Int.pow_succ]
theorem in_calls (s : Int) (i : Nat) (h0 : 0 ≤ s) (h1 : s ≤ 255) (hi : i < 8) (w : World) :
    Calls Try.prog 41 #[.int .u8 s, .int .i64 i] w fun e w' => e = .returned (.bool (inS s i)) ∧ w = w' := by
  have HI := Lib.hid hi
  go_enter Try.func41, Try.ntmps41
  go_wp2
  go_loop [0, 5] (fun t v => ∃ k : Nat, k ≤ i ∧ v = .int .i64 k ∧ t = .int .u8 (s / 2 ^ k)) (fun _ v => i - (intOf v).toNat)
  case atStart => exact ⟨0, by omega, rfl, by simp⟩
  case round =>
    obtain ⟨k, hk, rfl, rfl⟩ := hrel
    have HD := Lib.hid (halves s k h0)
    have b0 : 0 ≤ s / 2 ^ k := Int.ediv_nonneg h0 (Int.pow_nonneg (by decide))
    have b1 : s / 2 ^ k ≤ 255 := Int.le_trans (Int.ediv_le_self _ h0) h1
    have HE : Hid (s / 2 ^ i % 2 = 1 ↔ inS s i = true) := Lib.hid (by rw [inS_eq s i h0]; simp)
    by_cases hlt : k < i
    · obtain ⟨x, hx⟩ : ∃ x, s / 2 ^ k = x := ⟨_, rfl⟩
      rw [hx] at b0 b1 HD ⊢
      have HX := Lib.hid hx
      clear hx
      go_wp2
      exact ⟨⟨k + 1, by omega, by go_num, by rw [HD.out]⟩, by simp [intOf]; omega⟩
    · obtain rfl : k = i := by omega
      obtain ⟨x, hx⟩ : ∃ x, s / 2 ^ k = x := ⟨_, rfl⟩
      rw [hx] at b0 b1 HD HE ⊢
      go_wp2
      go_ret
      exact ⟨by
        have := HE.out
        cases hh : inS s k <;> simp [hh] at this ⊢ <;> omega, rfl⟩

theorem weightR (r : Nat) (ws gs : List Int) (w : World) (h : RSys M w r ws gs) (s : Int) (hs : 0 ≤ s ∧ s ≤ 255) (g : Nat) (hg : g < 7) :
    Calls Try.prog 40 #[.pointer (some ⟨r, 0, none⟩), .int .u8 s, .int .i64 g] w fun e w' => e = .returned (.int .i64 (wsum ws gs (inS s) g ws.length)) ∧ w = w' := by
  obtain ⟨v, g1, c1, g2, c2, hb, l1, l2, e1, e2⟩ := h
  obtain ⟨b0, b1⟩ := box44 hb
  have HV := Lib.hid v
  have E1 := Lib.hid e1
  have E2 := Lib.hid e2
  have HS := Lib.hid hs
  have h7 := v.le7
  clear hb v e1 e2 hs
  go_enter Try.func40, Try.ntmps40
  go_wp2
  go_loop [7, 8] (fun t v => ∃ k : Nat, k ≤ ws.length ∧ v = .int .i64 k ∧ t = .int .i64 (wsum ws gs (inS s) g k)) (fun _ v => ws.length - (intOf v).toNat)
  case atStart => exact ⟨0, by omega, rfl, rfl⟩
  case round =>
    obtain ⟨k, hk, rfl, rfl⟩ := hrel
    have bd := wsum_bd HV.out (inS s) g k hk
    by_cases hlt : k < ws.length
    · have x1 := E1.out k hlt
      have x2 := E2.out k hlt
      have r1 := HV.out.wr k hlt
      have r2 := HV.out.gr k hlt
      have HT : Hid (wsum ws gs (inS s) g (k + 1) = wsum ws gs (inS s) g k + if gs.getD k 0 = g ∧ inS s k = true then ws.getD k 0 else 0) := rfl
      have KI := Lib.hid (in_calls s k HS.out.1 HS.out.2 (by omega) w)
      obtain ⟨t, ht⟩ : ∃ x, wsum ws gs (inS s) g k = x := ⟨_, rfl⟩
      obtain ⟨y, hy⟩ : ∃ x, ws.getD k 0 = x := ⟨_, rfl⟩
      obtain ⟨z, hz⟩ : ∃ x, gs.getD k 0 = x := ⟨_, rfl⟩
      rw [ht] at bd HT ⊢
      rw [hy] at x1 r1 HT
      rw [hz] at x2 r2 HT
      clear ht hy hz
      by_cases hzg : z = g
      · subst hzg
        cases hi : inS s k with
        | true =>
          rw [hi] at HT
          have KI2 := calls_eq KI.out (congrArg Value.bool hi)
          clear hi KI
          go_wp2_with (go_at_call 41; refine KI2.out.mono ?_; rintro e w' ⟨rfl, rfl⟩)
          exact ⟨⟨k + 1, by omega, by go_num, by rw [HT.out]; simp⟩, by simp [intOf]; omega⟩
        | false =>
          rw [hi] at HT
          have KI2 := calls_eq KI.out (congrArg Value.bool hi)
          clear hi KI
          go_wp2_with (go_at_call 41; refine KI2.out.mono ?_; rintro e w' ⟨rfl, rfl⟩)
          exact ⟨⟨k + 1, by omega, by go_num, by rw [HT.out]; simp⟩, by simp [intOf]; omega⟩
      · have hq : (z == (g : Int)) = false := by rw [beq_eq_false_iff_ne]; exact hzg
        go_wp2
        exact ⟨⟨k + 1, by omega, by go_num, by rw [HT.out]; simp [hzg]⟩, by simp [intOf]; omega⟩
    · obtain rfl : k = ws.length := by omega
      go_wp2
      go_ret
      exact ⟨rfl, rfl⟩

/-- the reference counts a group only where it weighs something -/
theorem heldTo_step {ws gs : List Int} (h : Valid ws gs) (S : Nat → Bool) (g : Nat) :
    heldTo ws gs S (g + 1) = if 0 < wsum ws gs (fun _ => true) g ws.length then (if wsum ws gs (fun _ => true) g ws.length < 2 * wsum ws gs S g ws.length then heldTo ws gs S g + 1 else heldTo ws gs S g) else heldTo ws gs S g := by
  simp only [heldTo]
  have b0 := wsum_bd h S g ws.length (Nat.le_refl _)
  have b1 := wsum_bd h (fun _ => true) g ws.length (Nat.le_refl _)
  have m := wsum_mono h S (fun _ => true) (fun _ _ _ => rfl) g ws.length (Nat.le_refl _)
  split <;> split <;> (try split) <;> omega
theorem cntTo_step (ws gs : List Int) (g : Nat) : cntTo ws gs (g + 1) = if 0 < wsum ws gs (fun _ => true) g ws.length then cntTo ws gs g + 1 else cntTo ws gs g := by
  simp only [cntTo]
  split <;> omega
theorem wsum_255 {ws gs : List Int} (h : Valid ws gs) (g : Int) : wsum ws gs (inS 255) g ws.length = wsum ws gs (fun _ => true) g ws.length :=
  wsum_congr _ _ _ _ (fun i hi => by
    have := h.le7
    have : i = 0 ∨ i = 1 ∨ i = 2 ∨ i = 3 ∨ i = 4 ∨ i = 5 ∨ i = 6 := by omega
    rcases this with rfl | rfl | rfl | rfl | rfl | rfl | rfl <;> rfl)
set_option maxHeartbeats 2000000 in
theorem hasR (r : Nat) (ws gs : List Int) (w : World) (h : RSys M w r ws gs) (s : Int) (hs : 0 ≤ s ∧ s ≤ 255) :
    Calls Try.prog 28 #[.pointer (some ⟨r, 0, none⟩), .int .u8 s] w fun e w' => e = .returned (.bool (hasB ws gs (inS s))) ∧ w = w' := by
  have HR := Lib.hid h
  have HV := Lib.hid h.v
  have HS := Lib.hid hs
  clear h hs
  go_enter Try.func28, Try.ntmps28
  go_wp2
  go_loop [5, 6, 7] (fun a b v => ∃ k : Nat, k ≤ 7 ∧ v = .int .i64 k ∧ a = .int .i64 (heldTo ws gs (inS s) k) ∧ b = .int .i64 (cntTo ws gs k)) (fun _ _ v => 7 - (intOf v).toNat)
  case atStart => exact ⟨0, by omega, rfl, rfl, rfl⟩
  case round =>
    obtain ⟨k, hk, rfl, rfl, rfl⟩ := hrel
    have bh := heldTo_bd ws gs (inS s) k
    have bc := cntTo_bd ws gs k
    by_cases hlt : k < 7
    · have TH := Lib.hid (heldTo_step HV.out (inS s) k)
      have TC := Lib.hid (cntTo_step ws gs k)
      have KA := calls_eq (weightR r ws gs w HR.out 255 (by decide) k hlt) (congrArg (Value.int .i64) (wsum_255 HV.out k))
      have KB := Lib.hid (weightR r ws gs w HR.out s HS.out k hlt)
      have ba := wsum_bd HV.out (fun _ => true) k ws.length (Nat.le_refl _)
      have bb := wsum_bd HV.out (inS s) k ws.length (Nat.le_refl _)
      have h7 := HV.out.le7
      obtain ⟨x, hx⟩ : ∃ x, wsum ws gs (fun _ => true) k ws.length = x := ⟨_, rfl⟩
      obtain ⟨y, hy⟩ : ∃ x, wsum ws gs (inS s) k ws.length = x := ⟨_, rfl⟩
      obtain ⟨H, hH⟩ : ∃ x, heldTo ws gs (inS s) k = x := ⟨_, rfl⟩
      obtain ⟨C, hC⟩ : ∃ x, cntTo ws gs k = x := ⟨_, rfl⟩
      rw [hx] at ba TH TC KA
      rw [hy] at bb TH KB
      rw [hH] at TH bh ⊢
      rw [hC] at TC bc ⊢
      clear hx hy hH hC
      by_cases x0 : 0 < x
      · rw [if_pos x0] at TH TC
        by_cases x1 : x < 2 * y
        · rw [if_pos x1] at TH
          go_wp2_with fail
          refine KA.out.mono ?_
          rintro e w' ⟨rfl, rfl⟩
          go_wp2_with fail
          refine KB.out.mono ?_
          rintro e w' ⟨rfl, rfl⟩
          go_wp2
          exact ⟨⟨k + 1, by omega, by go_num, by rw [TH.out], by rw [TC.out]⟩, by simp [intOf]; omega⟩
        · rw [if_neg x1] at TH
          go_wp2_with fail
          refine KA.out.mono ?_
          rintro e w' ⟨rfl, rfl⟩
          go_wp2_with fail
          refine KB.out.mono ?_
          rintro e w' ⟨rfl, rfl⟩
          go_wp2
          exact ⟨⟨k + 1, by omega, by go_num, by rw [TH.out], by rw [TC.out]⟩, by simp [intOf]; omega⟩
      · rw [if_neg x0] at TH TC
        go_wp2_with fail
        refine KA.out.mono ?_
        rintro e w' ⟨rfl, rfl⟩
        go_wp2
        exact ⟨⟨k + 1, by omega, by go_num, by rw [TH.out], by rw [TC.out]⟩, by simp [intOf]; omega⟩
    · obtain rfl : k = 7 := by omega
      go_wp2
      go_ret
      exact ⟨by simp [hasB], rfl⟩
end Go.Proofs.Ytfkbknkmanphfaa.Q
