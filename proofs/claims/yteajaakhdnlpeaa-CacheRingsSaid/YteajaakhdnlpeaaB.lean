import Derived.Test.YteajaakhdnlpeaaA
namespace Go.Proofs.Yteajaakhdnlpeaa.Q
open Go.RowKit Go.Proofs.YteajaakhdnlpeaaW.PrintWords Go.Deep
set_option linter.unusedVariables false
set_option linter.unusedSimpArgs false

theorem none_int (b most : Nat) (xs : List Value) (w : World) (h : RingI 83 w b most xs) :
    Calls Try.prog 27 #[.pointer (some ⟨b, 0, none⟩)] w fun e w' => e = .returned (.bool false) ∧ w = w' := by
  obtain ⟨f, P, hr, -⟩ := h
  have c0 : w.cell? ⟨b, 0, none⟩ = some (.bool true) := hr.cell (by omega)
  clear hr
  go_enter Try.func27, Try.ntmps27
  go_wp2
  go_ret
  exact ⟨rfl, rfl⟩
theorem place_int (b f i : Nat) (w : World) (c2 : w.cell? ⟨b, 2, none⟩ = some (.int .i64 f)) (hf : f < 64) (hi : i ≤ 64) :
    Calls Try.prog 28 #[.pointer (some ⟨b, 0, none⟩), .int .i64 i] w fun e w' => e = .returned (.int .i64 ((f + i) % 64 : Nat)) ∧ w = w' := by
  have HM := Lib.hid (mod64 (f + i))
  go_enter Try.func28, Try.ntmps28
  go_wp2
  go_ret
  exact ⟨by rw [← HM.out]; rfl, rfl⟩
theorem len_int (b most : Nat) (xs : List Value) (w : World) (h : RingI 83 w b most xs) :
    Calls Try.prog 12 #[.pointer (some ⟨b, 0, none⟩)] w fun e w' => e = .returned (.int .i64 xs.length) ∧ w = w' := by
  have K := Lib.hid (none_int b most xs w h)
  obtain ⟨f, P, hr, -⟩ := h
  have c3 : w.cell? ⟨b, 3, none⟩ = some (.int .i64 xs.length) := hr.cell (by omega)
  clear hr
  go_enter Try.func12, Try.ntmps12
  go_wp2_with fail
  refine K.out.mono ?_
  rintro e w' ⟨rfl, rfl⟩
  go_wp2
  go_ret
  exact ⟨rfl, rfl⟩
set_option maxRecDepth 100000 in
theorem at_int (b most : Nat) (xs : List Value) (w : World) (h : RingI 83 w b most xs) (i : Nat) (hi : i < xs.length) (y : Int) (hy : xs.getD i .nilFunc = (.int .i64 y)) :
    Calls Try.prog 26 #[.pointer (some ⟨b, 0, none⟩), .int .i64 i] w fun e w' => e = .returned (.tuple #[(.int .i64 y), .bool true]) ∧ w.drew = w' := by
  have K := Lib.hid (len_int b most xs w h)
  obtain ⟨f, P, hr, hf, l1, l2, hp⟩ := h
  have c2 : w.cell? ⟨b, 2, none⟩ = some (.int .i64 f) := hr.cell (by omega)
  have K2 := Lib.hid (place_int b f i w.drew c2 hf (by omega))
  have hm : (f + i) % 64 < 64 := Nat.mod_lt _ (by decide)
  have hq := hp i hi
  rw [hy] at hq
  obtain ⟨p, ep⟩ : ∃ p, (f + i) % 64 = p := ⟨_, rfl⟩
  rw [ep] at K2 hm hq
  have hm0 : (0 : Int) ≤ (p : Int) := Int.natCast_nonneg _
  have hm1 : (p : Int) < 64 := by omega
  have c4 : w.cell? ⟨b, 4 + p, none⟩ = some (.int .i64 y) := by
    rw [hr.cell (by omega), Nat.add_comm, ← hq]; rfl
  clear hr hp hq ep hy
  go_enter Try.func26, Try.ntmps26
  go_wp2_with fail
  refine K.out.mono ?_
  rintro e w' ⟨rfl, rfl⟩
  go_wp2_with fail
  go_still_tail 8, (by kernel_rfl)
  still_call (K2.out.mono (fun _ _ h => ⟨h.1, h.2.symm⟩))
  repeat still_step
  try refine wpStill_nil ?_
  go_wp2
  go_ret2
  exact ⟨rfl, rfl⟩
theorem atno_int (b most : Nat) (xs : List Value) (w : World) (h : RingI 83 w b most xs) (i : Int) (hi : ¬ (0 ≤ i ∧ i < xs.length)) :
    Calls Try.prog 26 #[.pointer (some ⟨b, 0, none⟩), .int .i64 i] w fun e w' => e = .returned (.tuple #[.int .i64 0, .bool false]) ∧ w = w' := by
  have K := Lib.hid (len_int b most xs w h)
  clear h
  by_cases h0 : i < 0
  · go_enter Try.func26, Try.ntmps26
    go_wp2
    go_ret2
    exact ⟨rfl, rfl⟩
  · go_enter Try.func26, Try.ntmps26
    go_wp2_with fail
    refine K.out.mono ?_
    rintro e w' ⟨rfl, rfl⟩
    go_wp2
    go_ret2
    exact ⟨rfl, rfl⟩
set_option maxRecDepth 100000 in
theorem put_int (b most : Nat) (xs : List Value) (y : Int) (w : World) (h : RingI 83 w b most xs) :
    Calls Try.prog 9 #[.pointer (some ⟨b, 0, none⟩), (.int .i64 y)] w fun e w' => e = .returned (.tuple #[]) ∧ RingI 83 w' b most (push most xs (.int .i64 y)) ∧ Only (fun k => k = b) w w' := by
  have K := Lib.hid (none_int b most xs w h)
  by_cases m0 : most = 0
  · have HR := Lib.hid h
    obtain ⟨f, P, hr, -⟩ := h
    have c1 : w.cell? ⟨b, 1, none⟩ = some (.int .i64 most) := hr.cell (by omega)
    clear hr
    subst m0
    go_enter Try.func9, Try.ntmps9
    go_wp2_with fail
    refine K.out.mono ?_
    rintro e w' ⟨rfl, rfl⟩
    go_wp2
    refine bodyPost_ret (results_none rfl _ _ _) rfl ?_
    exact ⟨rfl, by simpa [push] using HR.out, Only.refl _ _⟩
  have snoc : ∀ (f : Nat) (P : Nat → Value) (zs : List Value) (W : World), W.rowIs b 83 68 (ringF most f zs.length P) → f < 64 → zs.length < most → most ≤ 64 → (∀ i, i < zs.length → P ((f + i) % 64) = zs.getD i .nilFunc) →
      RingI 83 ((W.setCell ⟨b, 4 + (f + zs.length) % 64, none⟩ (.int .i64 y)).setCell ⟨b, 3, none⟩ (.int .i64 (zs.length + 1))) b most (zs ++ [(.int .i64 y)]) := fun f P zs W hW hf l1 l2 hp => by
    have h1 := hW.set (4 + (f + zs.length) % 64) (.int .i64 y)
    rw [ringF_put] at h1
    have h2 := h1.set 3 (.int .i64 (zs.length + 1))
    rw [ringF_len] at h2
    refine ⟨f, _, by simpa using h2, hf, by simp; omega, l2, fun i hi => ?_⟩
    rw [getD_app]
    simp only [List.length_append, List.length_singleton] at hi
    by_cases e : i < zs.length
    · rw [if_pos e, if_neg (by omega)]; exact hp i e
    · have : i = zs.length := by omega
      subst this
      rw [if_pos rfl, if_neg e, if_pos rfl]
  have SN := Lib.hid snoc
  clear snoc
  by_cases lm : xs.length = most
  · obtain ⟨f, P, hr, hf, l1, l2, hp⟩ := h
    have HP : Hid (push most xs (.int .i64 y) = xs.tail ++ [(.int .i64 y)]) := Lib.hid (by unfold push; rw [if_neg m0, if_pos lm])
    obtain ⟨y0, ys, rfl⟩ : ∃ y0 ys, xs = y0 :: ys := by
      cases xs with
      | nil => simp at lm; omega
      | cons a l => exact ⟨a, l, rfl⟩
    have ly : ys.length + 1 = most := by simpa using lm
    rw [show (((y0 :: ys).length : Nat) : Int) = (most : Int) by simp; omega] at hr
    have c1 : w.cell? ⟨b, 1, none⟩ = some (.int .i64 most) := hr.cell (by omega)
    have c2 : w.cell? ⟨b, 2, none⟩ = some (.int .i64 f) := hr.cell (by omega)
    have c3 : w.cell? ⟨b, 3, none⟩ = some (.int .i64 most) := hr.cell (by omega)
    have KP := Lib.hid (fun (f i : Nat) W c2 hf hi => place_int b f i W c2 hf hi)
    have n1 : ((most : Int) == 0) = false := by rw [beq_eq_false_iff_ne]; omega
    have hf0 : (0 : Int) ≤ (f : Int) := Int.natCast_nonneg _
    have hf1 : (f : Int) < 64 := by omega
    have y1 := hr.cell (i := 4 + f) (by omega)
    have y2 := hr.frozen (4 + f)
    have HR := Lib.hid hr
    have HPP := Lib.hid hp
    clear hr hp
    go_enter Try.func9, Try.ntmps9
    go_wp2_with fail
    refine K.out.mono ?_
    rintro e w' ⟨rfl, rfl⟩
    go_wp2_with fail
    go_quiet (fail)
    have HO := Lib.hid ((Only.refl (fun k => k = b) w).drewN nq)
    obtain ⟨W1, hW1⟩ : ∃ W, w.drewN nq = W := ⟨_, rfl⟩
    replace c1 : W1.cell? ⟨b, 1, none⟩ = some (.int .i64 most) := by rw [← hW1]; exact c1
    replace c2 : W1.cell? ⟨b, 2, none⟩ = some (.int .i64 f) := by rw [← hW1]; exact c2
    replace c3 : W1.cell? ⟨b, 3, none⟩ = some (.int .i64 most) := by rw [← hW1]; exact c3
    have y1' := hW1 ▸ (show (w.drewN nq).cell? _ = _ from y1)
    have y2' := hW1 ▸ (show (w.drewN nq).frozen? _ = _ from y2)
    have HR1 := Lib.hid (hW1 ▸ (show (w.drewN nq).rowIs _ _ _ _ from HR.out))
    rw [hW1] at HO ⊢
    clear y1 y2 HR hW1
    go_wp2_with fail
    go_still_tail 9, (by kernel_rfl)
    change wpList _ _ _ _ _ W1.drew
    have HR2 : Hid ((W1.setCell ⟨b, 4 + f, none⟩ (.int .i64 0)).drew.rowIs b 83 68 (ringF most f most (fun j => if j = f then .int .i64 0 else P j))) := Lib.hid (by
      have h1 := HR1.out.set (4 + f) (.int .i64 0)
      rw [ringF_put] at h1
      exact h1)
    go_wp2_with fail
    have HO2 := Lib.hid (HO.out.setCell (p := ⟨b, 4 + f, none⟩) (.inl rfl) (.int .i64 0)).drew
    obtain ⟨W2, hW2⟩ : ∃ W, (W1.setCell ⟨b, 4 + f, none⟩ (.int .i64 0)).drew = W := ⟨_, rfl⟩
    rw [hW2] at HR2 HO2 ⊢
    clear HO HR1 hW2 c1 c2 c3 y1' y2'
    obtain ⟨P2, hP2⟩ : ∃ P2, (fun j => if j = f then .int .i64 0 else P j) = P2 := ⟨_, rfl⟩
    rw [hP2] at HR2
    have HP2 : Hid (∀ i, i < ys.length → P2 (((f + 1) % 64 + i) % 64) = ys.getD i .nilFunc) := Lib.hid (fun i hi => by
      have e1 : ((f + 1) % 64 + i) % 64 = (f + (i + 1)) % 64 := by omega
      have e2 : (f + (i + 1)) % 64 ≠ f := by omega
      rw [e1, ← hP2]
      show (if (f + (i + 1)) % 64 = f then _ else P _) = _
      rw [if_neg e2, HPP.out (i + 1) (by simp; omega)]
      simp)
    clear hP2 HPP
    have c2 : W2.cell? ⟨b, 2, none⟩ = some (.int .i64 f) := HR2.out.cell (by omega)
    have c3 : W2.cell? ⟨b, 3, none⟩ = some (.int .i64 most) := HR2.out.cell (by omega)
    have z2 : W2.frozen? ⟨b, 2, none⟩ = false := HR2.out.frozen 2
    have z3 : W2.frozen? ⟨b, 3, none⟩ = false := HR2.out.frozen 3
    refine (KP.out f 1 W2 c2 hf (by omega)).mono ?_
    rintro e w' ⟨rfl, rfl⟩
    have hq : (f + 1) % 64 < 64 := Nat.mod_lt _ (by decide)
    have HR3 : Hid (((W2.setCell ⟨b, 2, none⟩ (.int .i64 ((f + 1) % 64 : Nat))).setCell ⟨b, 3, none⟩ (.int .i64 (most - 1))).rowIs b 83 68 (ringF most ((f + 1) % 64 : Nat) (most - 1) P2)) := Lib.hid (by
      have h1 := HR2.out.set 2 (.int .i64 ((f + 1) % 64 : Nat))
      rw [ringF_first] at h1
      have h2 := h1.set 3 (.int .i64 (most - 1))
      rw [ringF_len] at h2
      exact h2)
    obtain ⟨q, hq'⟩ : ∃ q, (f + 1) % 64 = q := ⟨_, rfl⟩
    rw [hq'] at hq HR3 HP2 ⊢
    go_wp2_with fail
    have HO3 := Lib.hid ((HO2.out.setCell (p := ⟨b, 2, none⟩) (.inl rfl) (.int .i64 q)).setCell (p := ⟨b, 3, none⟩) (.inl rfl) (.int .i64 (most - 1)))
    obtain ⟨W3, hW3⟩ : ∃ W, (W2.setCell ⟨b, 2, none⟩ (.int .i64 q)).setCell ⟨b, 3, none⟩ (.int .i64 (most - 1)) = W := ⟨_, rfl⟩
    rw [hW3] at HR3 HO3 ⊢
    clear c2 c3 z2 z3 HR2 HO2 hW3
    rw [show ((most : Int) - 1) = (ys.length : Int) by omega] at HR3
    have c2 : W3.cell? ⟨b, 2, none⟩ = some (.int .i64 q) := HR3.out.cell (by omega)
    have c3 : W3.cell? ⟨b, 3, none⟩ = some (.int .i64 ys.length) := HR3.out.cell (by omega)
    have z3 : W3.frozen? ⟨b, 3, none⟩ = false := HR3.out.frozen 3
    have HF := Lib.hid (SN.out q P2 ys W3 HR3.out hq (by omega) l2 HP2.out)
    have K2 := Lib.hid (KP.out q ys.length W3.drew c2 hq (by omega))
    have hm : (q + ys.length) % 64 < 64 := Nat.mod_lt _ (by decide)
    have y1 := HR3.out.cell (i := 4 + (q + ys.length) % 64) (by omega)
    have y2 := HR3.out.frozen (4 + (q + ys.length) % 64)
    obtain ⟨p, ep⟩ : ∃ p, (q + ys.length) % 64 = p := ⟨_, rfl⟩
    rw [ep] at K2 hm HF y1 y2
    have hm0 : (0 : Int) ≤ (p : Int) := Int.natCast_nonneg _
    have hm1 : (p : Int) < 64 := by omega
    clear ep HP2 HR3
    go_still_tail 11, (by kernel_rfl)
    still_call (K2.out.mono (fun _ _ h => ⟨h.1, h.2.symm⟩))
    repeat still_step
    try refine wpStill_nil ?_
    go_wp2
    go_end0
    exact ⟨rfl, by rw [HP.out]; exact HF.out.keep rfl, ((HO3.out.setCell (.inl rfl) _).setCell (.inl rfl) _).drew⟩
  · have HP : Hid (push most xs (.int .i64 y) = xs ++ [(.int .i64 y)]) := Lib.hid (by unfold push; rw [if_neg m0, if_neg lm])
    obtain ⟨f, P, hr, hf, l1, l2, hp⟩ := h
    have c1 : w.cell? ⟨b, 1, none⟩ = some (.int .i64 most) := hr.cell (by omega)
    have c2 : w.cell? ⟨b, 2, none⟩ = some (.int .i64 f) := hr.cell (by omega)
    have c3 : w.cell? ⟨b, 3, none⟩ = some (.int .i64 xs.length) := hr.cell (by omega)
    have z : w.frozen? ⟨b, 3, none⟩ = false := hr.frozen 3
    have K2 := Lib.hid (fun W c2 => place_int b f xs.length W c2 hf (by omega))
    have hm : (f + xs.length) % 64 < 64 := Nat.mod_lt _ (by decide)
    have n1 : ((most : Int) == 0) = false := by rw [beq_eq_false_iff_ne]; omega
    have n2 : ((xs.length : Int) == (most : Int)) = false := by rw [beq_eq_false_iff_ne]; omega
    have HF : Hid (∀ W : World, W.rowIs b 83 68 (ringF most f xs.length P) → RingI 83 ((W.setCell ⟨b, 4 + (f + xs.length) % 64, none⟩ (.int .i64 y)).setCell ⟨b, 3, none⟩ (.int .i64 (xs.length + 1))) b most (xs ++ [(.int .i64 y)])) := Lib.hid (fun W hW => SN.out f P xs W hW hf (by omega) l2 hp)
    have y1 := hr.cell (i := 4 + (f + xs.length) % 64) (by omega)
    have y2 := hr.frozen (4 + (f + xs.length) % 64)
    have HR := Lib.hid hr
    obtain ⟨p, ep⟩ : ∃ p, (f + xs.length) % 64 = p := ⟨_, rfl⟩
    rw [ep] at K2 hm HF y1 y2
    have hm0 : (0 : Int) ≤ (p : Int) := Int.natCast_nonneg _
    have hm1 : (p : Int) < 64 := by omega
    clear hr hp ep
    go_enter Try.func9, Try.ntmps9
    go_wp2_with fail
    refine K.out.mono ?_
    rintro e w' ⟨rfl, rfl⟩
    go_wp2_with fail
    go_quiet (fail)
    have HO := Lib.hid ((Only.refl (fun k => k = b) w).drewN nq)
    obtain ⟨W1, hW1⟩ : ∃ W, w.drewN nq = W := ⟨_, rfl⟩
    replace c1 : W1.cell? ⟨b, 1, none⟩ = some (.int .i64 most) := by rw [← hW1]; exact c1
    replace c2 : W1.cell? ⟨b, 2, none⟩ = some (.int .i64 f) := by rw [← hW1]; exact c2
    replace c3 : W1.cell? ⟨b, 3, none⟩ = some (.int .i64 xs.length) := by rw [← hW1]; exact c3
    have y1' := hW1 ▸ (show (w.drewN nq).cell? _ = _ from y1)
    have y2' := hW1 ▸ (show (w.drewN nq).frozen? _ = _ from y2)
    have z' := hW1 ▸ (show (w.drewN nq).frozen? _ = _ from z)
    have HR1 := Lib.hid (hW1 ▸ (show (w.drewN nq).rowIs _ _ _ _ from HR.out))
    rw [hW1] at HO ⊢
    clear y1 y2 z HR hW1
    go_wp2_with fail
    go_still_tail 11, (by kernel_rfl)
    still_call ((K2.out W1.drew c2).mono (fun _ _ h => ⟨h.1, h.2.symm⟩))
    repeat still_step
    try refine wpStill_nil ?_
    go_wp2
    go_end0
    exact ⟨rfl, by rw [HP.out]; exact (HF.out _ HR1.out).keep rfl, ((HO.out.setCell (.inl rfl) _).setCell (.inl rfl) _).drew⟩

set_option maxRecDepth 100000 in
theorem zero_int : Try.zeroCells83 = #[.bool false, .int .i64 0, .int .i64 0, .int .i64 0] ++ Array.replicate 64 (.int .i64 0) := by kernel_rfl
set_option maxRecDepth 100000 in
theorem new_int (m : Int) (w : World) (h : 0 ≤ m ∧ m ≤ 64) :
    Calls Try.prog 8 #[.int .i64 m] w fun e w' => e = .returned (.tuple #[.pointer (some ⟨w.heap.size, 0, none⟩), .int .i64 0]) ∧ RingI 83 w' w.heap.size m.toNat [] ∧ Below w.heap.size w w' := by
  obtain ⟨h0, h1⟩ := h
  go_enter Try.func8, Try.ntmps8
  go_wp2
  go_ret2
  refine ⟨rfl, ?_, below_alloc (Below.refl _ _) _⟩
  have hr := World.rowIs_alloc w (litR Try.zeroCells83 m) 83 (ringF m 0 0 (fun _ => .int .i64 0)) (fun i hi => lit_get zero_int m i (by rw [lit_size zero_int] at hi; exact hi))
  rw [lit_size zero_int] at hr
  refine lit_ring zero_int m.toNat (by omega) ?_
  rw [show ((m.toNat : Nat) : Int) = m by omega]
  exact hr
set_option maxRecDepth 100000 in
theorem newno_int (m : Int) (w : World) (h : ¬ (0 ≤ m ∧ m ≤ 64)) :
    Calls Try.prog 8 #[.int .i64 m] w fun e w' => e = .returned (.tuple #[.pointer none, .int .i64 1]) ∧ w = w' := by
  by_cases h0 : m < 0
  · go_enter Try.func8, Try.ntmps8
    go_wp2
    go_ret2
    exact ⟨rfl, rfl⟩
  · go_enter Try.func8, Try.ntmps8
    go_wp2
    go_ret2
    exact ⟨rfl, rfl⟩
set_option maxRecDepth 100000 in
theorem clear_int (b most : Nat) (xs : List Value) (w : World) (h : RingI 83 w b most xs) :
    Calls Try.prog 13 #[.pointer (some ⟨b, 0, none⟩)] w fun e w' => e = .returned (.tuple #[]) ∧ RingI 83 w' b most [] ∧ Only (fun k => k = b) w w' := by
  have K := Lib.hid (none_int b most xs w h)
  obtain ⟨f, P, hr, hf, l1, l2, hp⟩ := h
  have c1 : w.cell? ⟨b, 1, none⟩ = some (.int .i64 most) := hr.cell (by omega)
  have HT := Lib.hid (rowIs_there hr)
  have HR := Lib.hid hr
  clear hr hp
  go_enter Try.func13, Try.ntmps13
  go_wp2_with fail
  refine K.out.mono ?_
  rintro e w' ⟨rfl, rfl⟩
  go_wp2_with (refine wpList_store_mid rfl _ _ _ rfl b 0 _ rfl rfl ?_ ?_ ?_ ?_)
  · change w.there b 0 (litR Try.zeroCells83 most).size
    rw [lit_size zero_int]; exact HT.out
  · change _ = some (litR Try.zeroCells83 most).size
    rw [lit_size zero_int]; kernel_rfl
  · exact lit_one zero_int rfl most
  · go_wp2
    go_end0
    exact ⟨rfl, lit_set zero_int most l2 HR.out, Only.setCells (S := fun k => k = b) b (.inl rfl) _ 0 (Only.refl _ _)⟩
end Go.Proofs.Yteajaakhdnlpeaa.Q
