import Derived.Test.YtkmpbnicofiehaaM
namespace Go.Proofs.Ytkmpbnicofiehaa.Q
open Go.RowKit Go.Proofs.YtkmpbnicofiehaaW.PrintWords Go.Deep Go.Maps Go.WideShapes
set_option linter.unusedVariables false
set_option linter.unusedSimpArgs false
attribute [local go_sem] Oper.semAt_some

/-! WHO IS TOUCHED IN TIME LIVES ON -/
def Rd (w : World) (A : Option Addr) (xs : List Int) : Prop := xs.length ≤ 9223372036854775807 ∧ (0 < xs.length → ∃ a, A = some a ∧ ∀ i, i < xs.length → w.cell? (a.add i) = some (.int .i64 (xs.getD i 0)))
theorem Rd.below {w w' : World} {A : Option Addr} {xs : List Int} (h : Rd w A xs) (hB : Below w.heap.size w w') : Rd w' A xs :=
  ⟨h.1, fun hp => by obtain ⟨a, ha, hc⟩ := h.2 hp; exact ⟨a, ha, fun i hi => pw_cell_below hB (hc i hi)⟩⟩
/-- one session, begun at a tick; where it lies -/
structure Lv (c b s : Nat) (span id t at_ now : Int) (n : Nat) (w0 w : World) : Prop where
  clk : Clk c b s now span n (oneD id t (roundUp (at_ + t) span)) w
  below : Below w0.heap.size w0 w
  cb : w0.heap.size ≤ c ∧ w0.heap.size ≤ b
  lo : 0 ≤ at_ ∧ at_ ≤ now
  span : 1 ≤ span ∧ span ≤ 1000
  tm : 1 ≤ t ∧ t ≤ 1000
  idw : (Lit.int .i64 id).wf = true
theorem lv_tick {c b s n : Nat} {span id t at_ now : Int} {w0 w : World} (h : Lv c b s span id t at_ now n w0 w) (hn : n ≤ 60) (hnow : now ≤ 100000) (hlt : now + 1 < at_ + t) :
    Calls Try.prog 9 #[.pointer (some ⟨c, 0, none⟩)] w fun e w' => (∃ A cp, e = .returned (.slice A 0 cp)) ∧ Lv c b s span id t at_ (now + 1) n w0 w' := by
  refine (tick_calls h.clk h.span.1 (by have := h.lo; omega) (by omega) (by omega) (Nat.le_refl n) (sort_all n (by omega))).mono ?_
  rintro e w' ⟨v, ys, rfl, hrow, hso, hnd, hmem, hC, hO⟩
  have hy0 : ys = [] := List.eq_nil_iff_forall_not_mem.2 (fun x hx => by
    obtain ⟨t', d, h1, h2⟩ := (hmem x).1 hx
    rw [oneD_look] at h1
    have hr := round_le (tick := at_ + t) h.span.1 (by have := h.lo; have := h.tm; omega)
    split at h1
    · cases h1; omega
    · cases h1)
  subst hy0
  obtain ⟨a, cp, rfl, _⟩ := own_sliceN hrow
  exact ⟨⟨a, cp, rfl⟩, hC, hO.from h.below (fun k e => by have := h.cb; have := h.below.size; omega), h.cb, ⟨h.lo.1, by have := h.lo; omega⟩, h.span, h.tm, h.idw⟩
theorem lv_touch {c b s n : Nat} {span id t at_ now : Int} {w0 w : World} (h : Lv c b s span id t at_ now n w0 w) (hn : n ≤ 60) (hnow : now ≤ 100000) :
    Calls Try.prog 12 #[.pointer (some ⟨c, 0, none⟩), .int .i64 id] w fun e w' => e = .returned (.int .i64 0) ∧ Lv c b s span id t now now (n + 1) w0 w' := by
  refine (touch_calls id t h.clk h.span.1 h.span.2 (by have := h.lo; omega) (by omega) h.tm.1 h.tm.2 (by omega) h.idw (by rw [oneD_has]; simp) ⟨_, oneD_at _ _ _ _⟩).mono ?_
  rintro e w' ⟨rfl, hC, hO⟩
  rw [oneD_put] at hC
  exact ⟨rfl, hC, hO.from h.below (fun k e => by have := h.cb; omega), h.cb, ⟨by have := h.lo; omega, Int.le_refl _⟩, h.span, h.tm, h.idw⟩
theorem lv_due {c b s n : Nat} {span id t at_ now : Int} {w0 w : World} (h : Lv c b s span id t at_ now n w0 w) :
    Calls Try.prog 11 #[.pointer (some ⟨c, 0, none⟩), .int .i64 id] w fun e w' => e = .returned (.tuple #[.int .i64 (roundUp (at_ + t) span), .bool true]) ∧ Lv c b s span id t at_ now n w0 w' := by
  refine (due_calls id h.clk h.span.1 h.idw).mono ?_
  rintro e w' ⟨d, rfl, ⟨t', hd⟩, hB⟩
  rw [oneD_at] at hd
  simp [lifeD] at hd
  rw [oneD_has]
  refine ⟨by rw [hd.2]; simp, h.clk.below hB, below_step h.below hB, h.cb, h.lo, h.span, h.tm, h.idw⟩
set_option maxHeartbeats 16000000 in
theorem lives_yes (span id t : Int) (A : Option Addr) (ca : Nat) (gs : List Int) (w : World) (hA : Rd w A gs) (h1 : 1 ≤ span) (h2 : span ≤ 1000) (i0 : 1 ≤ id) (hi0 : (Lit.int .i64 id).wf = true) (t0 : 1 ≤ t) (t1 : t ≤ 1000) :
    Calls Try.prog 4 #[.int .i64 span, .int .i64 id, .int .i32 t, .slice A gs.length ca] w fun e w' => e = .returned (.bool true) ∧ Below w.heap.size w w' := by
  have K1 := Lib.hid (works_calls w)
  have HA := Lib.hid hA
  obtain ⟨L, hL⟩ : ∃ L, gs.length = L := ⟨_, rfl⟩
  have hl := hA.1
  rw [hL] at hl
  have HL := Lib.hid hL
  rw [hL]
  clear hA hL
  go_enter Try.func4, Try.ntmps4
  go_wp2_with fail
  refine K1.out.mono ?_
  rintro e w1 ⟨rfl, hB⟩
  have HB1 := Lib.hid hB
  clear hB
  go_wp2_with fail
  refine (new_calls span w1 h1 h2).mono ?_
  rintro e w2 ⟨c, b, s, rfl, hC, hB, hb, hc⟩
  have K2 := Lib.hid (add_calls id t hC h1 h2 (by decide) (by decide) i0 t0 t1 (by decide) hi0)
  have HB2 := Lib.hid (below_step HB1.out hB)
  have hcb : w.heap.size ≤ c ∧ w.heap.size ≤ b := by have := HB1.out.size; omega
  have HCB := Lib.hid hcb
  clear hC hB hb hc hcb
  go_wp2_with fail
  refine K2.out.mono ?_
  rintro e w3 ⟨rfl, hC, hO⟩
  rw [empty_put] at hC
  have HV := Lib.hid (show Lv c b s span id t 0 0 1 w w3 from ⟨hC, hO.from HB2.out (fun k e => by have := HCB.out; omega), HCB.out, ⟨by decide, by decide⟩, ⟨h1, h2⟩, ⟨t0, t1⟩, hi0⟩)
  clear hC hO
  go_wp2_with fail
  go_loopw [12] (fun vi wr => ∃ (k : Nat) (at_ : Int), k ≤ L ∧ k ≤ 20 ∧ vi = .int .i64 k ∧ 0 ≤ at_ ∧ at_ ≤ 1000 * k ∧ Hid (Lv c b s span id t at_ at_ (k + 1) w wr)) (fun vi _ => L - (intOf vi).toNat)
  case atStart => exact ⟨0, 0, by omega, by omega, rfl, by omega, by omega, HV⟩
  case round =>
    obtain ⟨k, at_, hk, hk20, rfl, ha0, ha1, HI⟩ := hrel
    by_cases hlt : k < L
    · by_cases hlt2 : (k : Int) < 20
      · have q1 : decide (k < L) = true := decide_eq_true hlt
        have q2 : decide ((k : Int) < 20) = true := decide_eq_true hlt2
        obtain ⟨a, ha, hcell⟩ := (HA.out.below HI.out.below).2 (by have := HL.out; omega)
        subst ha
        have c1 := hcell k (by have := HL.out; omega)
        obtain ⟨g, hg⟩ : ∃ g, gs.getD k 0 = g := ⟨_, rfl⟩
        rw [hg] at c1
        clear hcell hg
        by_cases hgt : t ≤ g
        · have q3 : decide (t ≤ g) = true := decide_eq_true hgt
          go_wp2_with fail
          obtain ⟨N, hN, hNt⟩ : ∃ N : Int, t - 1 = N ∧ N < t := ⟨_, rfl, by omega⟩
          rw [hN]
          clear c1 hN
          go_wp2_with fail
          go_loopw [14] (fun vj wq => ∃ j : Nat, ((j : Int) ≤ N ∨ j = 0) ∧ vj = .int .i64 j ∧ Hid (Lv c b s span id t at_ (at_ + j) (k + 1) w wq)) (fun vj _ => (N - intOf vj).toNat)
          case atStart => exact ⟨0, .inr rfl, rfl, Lib.hid (by have := HI.out; simpa using this)⟩
          case round =>
            obtain ⟨j, hj, rfl, HJ⟩ := hrel
            by_cases hjn : (j : Int) < N
            · have r1 : decide ((j : Int) < N) = true := decide_eq_true hjn
              have KT := Lib.hid (lv_tick HJ.out (by omega) (by omega) (by omega))
              go_wp2_with fail
              refine KT.out.mono ?_
              rintro e w5 ⟨⟨A5, c5, rfl⟩, hV⟩
              have HV5 := Lib.hid (show Lv c b s span id t at_ (at_ + ((j + 1 : Nat) : Int)) (k + 1) w w5 by rw [show at_ + ((j + 1 : Nat) : Int) = at_ + j + 1 by omega]; exact hV)
              clear hV
              go_wp2
              exact ⟨⟨j + 1, .inl (by omega), by go_num, HV5⟩, by simp [intOf]; omega⟩
            · have r1 : decide ((j : Int) < N) = false := decide_eq_false hjn
              have KT := Lib.hid (lv_touch HJ.out (by omega) (by omega))
              go_wp2_with fail
              refine KT.out.mono ?_
              rintro e w5 ⟨rfl, hV⟩
              have HV5 := Lib.hid hV
              clear hV
              go_wp2
              exact ⟨⟨k + 1, at_ + j, by omega, by omega, by go_num, by omega, by omega, HV5⟩, by simp [intOf]; omega⟩
        · have q3 : decide (t ≤ g) = false := decide_eq_false hgt
          go_wp2_with fail
          obtain ⟨N, hN, hNt⟩ : ∃ N : Int, g = N ∧ N < t := ⟨_, rfl, by omega⟩
          rw [hN]
          clear c1 hN
          go_wp2_with fail
          go_loopw [14] (fun vj wq => ∃ j : Nat, ((j : Int) ≤ N ∨ j = 0) ∧ vj = .int .i64 j ∧ Hid (Lv c b s span id t at_ (at_ + j) (k + 1) w wq)) (fun vj _ => (N - intOf vj).toNat)
          case atStart => exact ⟨0, .inr rfl, rfl, Lib.hid (by have := HI.out; simpa using this)⟩
          case round =>
            obtain ⟨j, hj, rfl, HJ⟩ := hrel
            by_cases hjn : (j : Int) < N
            · have r1 : decide ((j : Int) < N) = true := decide_eq_true hjn
              have KT := Lib.hid (lv_tick HJ.out (by omega) (by omega) (by omega))
              go_wp2_with fail
              refine KT.out.mono ?_
              rintro e w5 ⟨⟨A5, c5, rfl⟩, hV⟩
              have HV5 := Lib.hid (show Lv c b s span id t at_ (at_ + ((j + 1 : Nat) : Int)) (k + 1) w w5 by rw [show at_ + ((j + 1 : Nat) : Int) = at_ + j + 1 by omega]; exact hV)
              clear hV
              go_wp2
              exact ⟨⟨j + 1, .inl (by omega), by go_num, HV5⟩, by simp [intOf]; omega⟩
            · have r1 : decide ((j : Int) < N) = false := decide_eq_false hjn
              have KT := Lib.hid (lv_touch HJ.out (by omega) (by omega))
              go_wp2_with fail
              refine KT.out.mono ?_
              rintro e w5 ⟨rfl, hV⟩
              have HV5 := Lib.hid hV
              clear hV
              go_wp2
              exact ⟨⟨k + 1, at_ + j, by omega, by omega, by go_num, by omega, by omega, HV5⟩, by simp [intOf]; omega⟩
      · have q1 : decide (k < L) = true := decide_eq_true hlt
        have q2 : decide ((k : Int) < 20) = false := decide_eq_false hlt2
        go_wp2_with fail
        have hrl := round_le (tick := at_ + t) h1 (by omega)
        have KD := lv_due HI.out
        obtain ⟨d, hd⟩ : ∃ d, roundUp (at_ + t) span = d := ⟨_, rfl⟩
        rw [hd] at KD hrl
        have HD := Lib.hid hd
        have p1 : decide (at_ + t ≤ d) = true := decide_eq_true hrl.1
        have p2 : (d % span == 0) = true := beq_iff_eq.2 hrl.2.2
        have p3 : 0 ≤ d := by omega
        have p4 : d ≤ 1000000 := by omega
        have KH := Lib.hid KD
        clear hrl KD hd
        refine KH.out.mono ?_
        rintro e w4 ⟨rfl, hV⟩
        have HV4 := Lib.hid hV
        clear hV
        go_wp2_with fail
        refine (now_calls HV4.out.clk h1).mono ?_
        rintro e w5 ⟨rfl, rfl⟩
        go_wp2_with fail
        refine (all_one HV4.out.clk h1 hi0).mono ?_
        rintro e w6 ⟨⟨A6, c6, rfl⟩, hB6⟩
        have HB6 := Lib.hid (below_step HV4.out.below hB6)
        clear hB6
        go_wp2
        go_ret
        exact ⟨rfl, HB6.out⟩
    · have q1 : decide (k < L) = false := decide_eq_false hlt
      go_wp2_with fail
      have hrl := round_le (tick := at_ + t) h1 (by omega)
      have KD := lv_due HI.out
      obtain ⟨d, hd⟩ : ∃ d, roundUp (at_ + t) span = d := ⟨_, rfl⟩
      rw [hd] at KD hrl
      have HD := Lib.hid hd
      have p1 : decide (at_ + t ≤ d) = true := decide_eq_true hrl.1
      have p2 : (d % span == 0) = true := beq_iff_eq.2 hrl.2.2
      have p3 : 0 ≤ d := by omega
      have p4 : d ≤ 1000000 := by omega
      have KH := Lib.hid KD
      clear hrl KD hd
      refine KH.out.mono ?_
      rintro e w4 ⟨rfl, hV⟩
      have HV4 := Lib.hid hV
      clear hV
      go_wp2_with fail
      refine (now_calls HV4.out.clk h1).mono ?_
      rintro e w5 ⟨rfl, rfl⟩
      go_wp2_with fail
      refine (all_one HV4.out.clk h1 hi0).mono ?_
      rintro e w6 ⟨⟨A6, c6, rfl⟩, hB6⟩
      have HB6 := Lib.hid (below_step HV4.out.below hB6)
      clear hB6
      go_wp2
      go_ret
      exact ⟨rfl, HB6.out⟩
end Go.Proofs.Ytkmpbnicofiehaa.Q
