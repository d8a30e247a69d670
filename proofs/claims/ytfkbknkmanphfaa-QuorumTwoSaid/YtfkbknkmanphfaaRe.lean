import Derived.Test.YtfkbknkmanphfaaRd
namespace Go.Proofs.Ytfkbknkmanphfaa.Q
open Go.RowKit Go.Proofs.YtfkbknkmanphfaaW.PrintWords Go.Sort
set_option linter.unusedVariables false
set_option linter.unusedSimpArgs false
variable {M : Nat}

theorem or_add (s : Int) (k : Nat) (h0 : 0 ≤ s) (h1 : s < 2 ^ k) (hk : k < 8) : bits .or .u8 s (2 ^ k % 256) = s + 2 ^ k := by
  obtain ⟨n, rfl⟩ := Int.eq_ofNat_of_zero_le h0
  have hn : n < 2 ^ k := by exact_mod_cast h1
  have hp : 2 ^ k ≤ 2 ^ 7 := Nat.pow_le_pow_right (by decide) (by omega)
  have := bytes_all (fun n i => decide (2 ^ i ≤ n) || (bits .or .u8 (n : Int) (2 ^ i % 256) == (n : Int) + 2 ^ i)) (by decide +kernel) n k (by omega) hk
  simp only [Bool.or_eq_true, decide_eq_true_eq, beq_iff_eq] at this
  rcases this with h | h
  · omega
  · exact h
theorem setTo_lt (f : Nat → Ak) (ze zn : Int) (k : Nat) (hk : k ≤ 7) : setTo f ze zn k < 2 ^ k := by
  induction k with
  | zero => simp [setTo]
  | succ k ih =>
    have ih := ih (by omega)
    have b := (setTo_bd f ze zn k (by omega)).1
    simp only [setTo]
    rw [Int.pow_succ]
    split
    · rw [or_add _ k b ih (by omega)]; omega
    · have : (0 : Int) < 2 ^ k := Int.pow_pos (by decide)
      omega
theorem setTo_add (f : Nat → Ak) (ze zn : Int) (k : Nat) (hk : k < 7) : setTo f ze zn (k + 1) = if (f k).s = true ∧ 0 ≤ cmpZ (f k).e (f k).n ze zn then setTo f ze zn k + 2 ^ k else setTo f ze zn k := by
  have := or_add _ k (setTo_bd f ze zn k (by omega)).1 (setTo_lt f ze zn k (by omega)) (by omega)
  simp only [setTo]
  rw [this]
theorem setTo_fin {ws : List Int} {f : Nat → Ak} (hf : Fin ws f) (ze zn : Int) (h7 : ws.length ≤ 7) : setTo f ze zn 7 = setTo f ze zn ws.length := by
  have key : ∀ m, ws.length ≤ m → setTo f ze zn m = setTo f ze zn ws.length := fun m hm => by
    induction m with
    | zero => rw [show ws.length = 0 by omega]
    | succ m ih =>
      by_cases e : ws.length = m + 1
      · rw [e]
      · simp only [setTo]
        rw [hf m (by omega), if_neg (by simp)]
        exact ih (by omega)
  exact key 7 h7
/-- what a read of the reference's Acks meets -/
theorem racks_cells {w : World} {a r hb ub : Nat} {ws gs : List Int} {f : Nat → Ak} (h : RAcks M w a r hb ub ws gs f) : ∃ hc uc, w.cell? ⟨a, 0, none⟩ = some (.pointer (some ⟨r, 0, none⟩)) ∧ w.cell? ⟨a, 1, none⟩ = some (.slice (some ⟨hb, 0, none⟩) ws.length hc) ∧ w.cell? ⟨a, 2, none⟩ = some (.slice (some ⟨ub, 0, none⟩) ws.length uc) ∧
    ∀ i, i < ws.length → w.cell? ⟨hb, i, none⟩ = some (.bool (f i).s) ∧ w.cell? ⟨ub, i * 2, none⟩ = some (.int .u32 (f i).e) ∧ w.cell? ⟨ub, i * 2 + 1, none⟩ = some (.int .u32 (f i).n) := by
  obtain ⟨hs, ⟨hc, uc, ch, cu, b1, b2, b3, hv⟩, _⟩ := h
  obtain ⟨x0, x1, x2, _⟩ := box3 b1
  refine ⟨hc, uc, x0, x1, x2, fun i hi => ?_⟩
  obtain ⟨v0, v1, v2⟩ := hv i hi
  exact ⟨(cell_of_row w hb i _ _ _ b2).trans v0, (cell_of_row w ub _ _ _ _ b3).trans v1, (cell_of_row w ub _ _ _ _ b3).trans v2⟩

set_option maxHeartbeats 4000000 in
theorem fromR (a r hb ub : Nat) (ws gs : List Int) (f : Nat → Ak) (w : World) (h : RAcks M w a r hb ub ws gs f) (ze zn : Int) :
    Calls Try.prog 38 #[.pointer (some ⟨a, 0, none⟩), .agg #[.int .u32 ze, .int .u32 zn]] w fun e w' => e = .returned (.int .u8 (setTo f ze zn ws.length)) ∧ Below w.heap.size w w' := by
  have h7 := h.sys.v.le7
  have HA := Lib.hid h
  have HBB := Lib.hid (below_alloc (Below.refl w.heap.size w) (.cells #[.int .u32 ze, .int .u32 zn] 44))
  have HZ := Lib.hid (heap_alloc_new w (.cells #[.int .u32 ze, .int .u32 zn] 44))
  clear h
  go_enter Try.func38, Try.ntmps38
  go_wp2
  go_loopw [5, 6, 7] (fun s b t wr => ∃ k : Nat, k ≤ ws.length ∧ t = .int .i64 k ∧ s = .int .u8 (setTo f ze zn k) ∧ (∃ p : Int, b = .int .u8 p ∧ p = 2 ^ k) ∧ Hid (wr.heap[w.heap.size]? = some (.cells #[.int .u32 ze, .int .u32 zn] 44 (0, 0))) ∧ Hid (Below w.heap.size w wr)) (fun _ _ t _ => ws.length - (intOf t).toNat)
  case atStart => exact ⟨0, by omega, rfl, rfl, ⟨1, rfl, rfl⟩, HZ, HBB⟩
  case round =>
    clear HZ HBB
    obtain ⟨k, hk, rfl, rfl, ⟨p, rfl, hp⟩, HZ, HB⟩ := hrel
    have HP := Lib.hid hp
    obtain ⟨hc, uc, a0, a1, a2, hv⟩ := racks_cells (HA.out.below HB.out)
    by_cases hlt : k < ws.length
    · obtain ⟨v0, v1, v2⟩ := hv k hlt
      have k0 := cell_regrown a0
      have k1 := cell_regrown a1
      have k2 := cell_regrown a2
      have k3 := cell_regrown v0
      have k4 := cell_regrown v1
      have k5 := cell_regrown v2
      obtain ⟨z0, z1⟩ := box44 HZ.out
      have k6 := cell_regrown z0
      have k7 := cell_regrown z1
      have HT := Lib.hid (setTo_add f ze zn k (by omega))
      have bd := setTo_bd f ze zn k (by omega)
      have lt := setTo_lt f ze zn k (by omega)
      rw [← hp] at lt
      have pp : 1 ≤ p ∧ p ≤ 64 := by
        have h6 : k ≤ 6 := by omega
        have : k = 0 ∨ k = 1 ∨ k = 2 ∨ k = 3 ∨ k = 4 ∨ k = 5 ∨ k = 6 := by omega
        rcases this with rfl | rfl | rfl | rfl | rfl | rfl | rfl <;> (rw [hp]; decide)
      have HP2 : Hid (p * 2 = 2 ^ (k + 1)) := Lib.hid (by rw [hp, Int.pow_succ])
      rw [← hp] at HT
      obtain ⟨x, hx⟩ : ∃ x, f k = x := ⟨_, rfl⟩
      obtain ⟨s, hs⟩ : ∃ x, setTo f ze zn k = x := ⟨_, rfl⟩
      rw [hx] at k3 k4 k5 HT
      rw [hs] at HT bd lt ⊢
      obtain ⟨xs, xe, xn⟩ := x
      dsimp only at k3 k4 k5 HT
      clear v0 v1 v2 z0 z1 hv hx hs hp
      cases xs with
      | true =>
        by_cases hc : 0 ≤ cmpZ xe xn ze zn
        · skip
          go_wp2_with fail
          have c18 : ∀ d os, Calls Try.prog 18 #[.agg #[.int .u32 xe, .int .u32 xn], .agg #[.int .u32 ze, .int .u32 zn]] (grow (redrawn wr d) os) fun e w'' => e = .returned (.int .i64 (cmpZ xe xn ze zn)) ∧ ∃ p : Regrown, w'' = grow (redrawn wr p.d) p.os := fun d os => Calls.regrown_of (cmpR_calls xe xn ze zn _)
          refine wp_region_quiet_below (by kernel_rfl) (by kernel_rfl) ?_
          repeat (go_big_quiet_step (first | exact c18 _ _))
          refine wpQuiet_nil ?_
          intro _ hw'
          obtain ⟨⟨dq, osq⟩, hw''⟩ := hw'
          subst hw''
          have HB2 := Lib.hid (below_then HB.out HB.out.size (below_regrown wr dq osq))
          have HZ2 := Lib.hid (regrown_heap HZ.out dq osq)
          generalize grow (redrawn wr dq) osq = W4 at *
          clear c18 k0 k1 k2 k3 k4 k5 k6 k7
          go_wp2
          exact ⟨⟨k + 1, by omega, by go_num, by rw [HT.out]; simp [hc], ⟨_, rfl, HP2.out⟩, HZ2, HB2⟩, by simp [intOf]; omega⟩
        · skip
          go_wp2_with fail
          have c18 : ∀ d os, Calls Try.prog 18 #[.agg #[.int .u32 xe, .int .u32 xn], .agg #[.int .u32 ze, .int .u32 zn]] (grow (redrawn wr d) os) fun e w'' => e = .returned (.int .i64 (cmpZ xe xn ze zn)) ∧ ∃ p : Regrown, w'' = grow (redrawn wr p.d) p.os := fun d os => Calls.regrown_of (cmpR_calls xe xn ze zn _)
          refine wp_region_quiet_below (by kernel_rfl) (by kernel_rfl) ?_
          repeat (go_big_quiet_step (first | exact c18 _ _))
          refine wpQuiet_nil ?_
          intro _ hw'
          obtain ⟨⟨dq, osq⟩, hw''⟩ := hw'
          subst hw''
          have HB2 := Lib.hid (below_then HB.out HB.out.size (below_regrown wr dq osq))
          have HZ2 := Lib.hid (regrown_heap HZ.out dq osq)
          generalize grow (redrawn wr dq) osq = W4 at *
          clear c18 k0 k1 k2 k3 k4 k5 k6 k7
          go_wp2
          exact ⟨⟨k + 1, by omega, by go_num, by rw [HT.out, if_neg (fun h => by have := h.2; omega)], ⟨_, rfl, HP2.out⟩, HZ2, HB2⟩, by simp [intOf]; omega⟩
      | false =>
          go_wp2_with fail
          have c18 := 0
          refine wp_region_quiet_below (by kernel_rfl) (by kernel_rfl) ?_
          repeat (go_big_quiet_step (first | exact c18 _ _))
          refine wpQuiet_nil ?_
          intro _ hw'
          obtain ⟨⟨dq, osq⟩, hw''⟩ := hw'
          subst hw''
          have HB2 := Lib.hid (below_then HB.out HB.out.size (below_regrown wr dq osq))
          have HZ2 := Lib.hid (regrown_heap HZ.out dq osq)
          generalize grow (redrawn wr dq) osq = W4 at *
          clear c18 k0 k1 k2 k3 k4 k5 k6 k7
          go_wp2
          exact ⟨⟨k + 1, by omega, by go_num, by rw [HT.out]; simp, ⟨_, rfl, HP2.out⟩, HZ2, HB2⟩, by simp [intOf]; omega⟩
    · obtain rfl : k = ws.length := by omega
      go_wp2
      go_ret
      exact ⟨rfl, HB.out⟩

theorem Fin.setTo7 {ws : List Int} {f : Nat → Ak} (hf : Fin ws f) (h7 : ws.length ≤ 7) (ze zn : Int) : setTo f ze zn ws.length = setTo f ze zn 7 := (setTo_fin hf ze zn h7).symm
theorem bestTo_fin {ws gs : List Int} {f : Nat → Ak} (hf : Fin ws f) (h7 : ws.length ≤ 7) : bestTo ws gs f 7 = bestTo ws gs f ws.length := by
  have key : ∀ m, ws.length ≤ m → bestTo ws gs f m = bestTo ws gs f ws.length := fun m hm => by
    induction m with
    | zero => rw [show ws.length = 0 by omega]
    | succ m ih =>
      by_cases e : ws.length = m + 1
      · rw [e]
      · simp only [bestTo]
        rw [hf m (by omega), ih (by omega)]
        simp [bestStep]
  exact key 7 h7
end Go.Proofs.Ytfkbknkmanphfaa.Q
