import Derived.Test.YteajaakhdnlpeaaC
namespace Go.Proofs.Yteajaakhdnlpeaa.Q
open Go.RowKit Go.Proofs.YteajaakhdnlpeaaW.PrintWords Go.Deep
set_option linter.unusedVariables false
set_option linter.unusedSimpArgs false

/-- a slice of ints that reads as xs -/
def Rd (w : World) (A : Option Addr) (xs : List Int) : Prop := xs.length ≤ 9223372036854775807 ∧ (0 < xs.length → ∃ a, A = some a ∧ ∀ i, i < xs.length → w.cell? (a.add i) = some (.int .i64 (xs.getD i 0)))
theorem Rd.below {w w' : World} {A : Option Addr} {xs : List Int} (h : Rd w A xs) (hB : Below w.heap.size w w') : Rd w' A xs :=
  ⟨h.1, fun hp => by obtain ⟨a, ha, hc⟩ := h.2 hp; exact ⟨a, ha, fun i hi => pw_cell_below hB (hc i hi)⟩⟩
def ints (xs : List Int) : List Value := xs.map (Value.int .i64)
theorem ints_getD (xs : List Int) (i : Nat) (hi : i < xs.length) : (ints xs).getD i .nilFunc = .int .i64 (xs.getD i 0) := by
  simp [ints, List.getD_eq_getElem?_getD, hi]
/-- the last m of a list -/
def lastN {α : Type} (m : Nat) (l : List α) : List α := l.drop (l.length - m)
theorem lastN_length {α : Type} (m : Nat) (l : List α) : (lastN m l).length = min m l.length := by simp [lastN]; omega
theorem lastN_all {α : Type} (m : Nat) (l : List α) (h : l.length ≤ m) : lastN m l = l := by
  unfold lastN; rw [show l.length - m = 0 by omega]; rfl
theorem lastN_getD (m : Nat) (l : List Int) (i : Nat) : (lastN m l).getD i 0 = l.getD (l.length - m + i) 0 := by
  simp [lastN, List.getD_eq_getElem?_getD, List.getElem?_drop]
theorem lastN_map {α β : Type} (f : α → β) (m : Nat) (l : List α) : lastN m (l.map f) = (lastN m l).map f := by simp [lastN]
/-- Put keeps the last ones -/
theorem push_last (m : Nat) (l : List Value) (x : Value) : push m (lastN m l) x = lastN m (l ++ [x]) := by
  unfold push
  by_cases h0 : m = 0
  · subst h0; simp [lastN]
  · rw [if_neg h0]
    by_cases h1 : (lastN m l).length = m
    · rw [if_pos h1]
      rw [lastN_length] at h1
      have h2 : m ≤ l.length := by omega
      unfold lastN
      rw [List.tail_drop, List.length_append, List.length_singleton, show l.length + 1 - m = l.length - m + 1 by omega, List.drop_append_of_le_length (by omega)]
    · rw [if_neg h1]
      rw [lastN_length] at h1
      rw [lastN_all m l (by omega), lastN_all]
      simp; omega

theorem infoI : (Try.prog.info? 2).map (fun i => (i.zero, i.size, i.bytes)) = some (some (.int .i64 0), 1, 8) := by kernel_rfl
set_option maxHeartbeats 1000000 in
theorem now_calls (n m c : Nat) (A : Option Addr) (L : List Int) (w : World) (hb : w.heap[n]? = some (.cells #[.int .i64 m, .slice A L.length c] 34 (0, 0))) (hr : Rd w A L) (hc : L.length ≤ c) (hm : m ≤ 64) :
    Calls Try.prog 11 #[.pointer (some ⟨n, 0, none⟩)] w fun e w' => ∃ A' c', e = .returned (.slice A' (lastN m L).length c') ∧ Rd w' A' (lastN m L) ∧ Below w.heap.size w w' := by
  have b0 : w.cell? ⟨n, 0, none⟩ = some (.int .i64 m) := (cell_of_row w n 0 _ _ _ hb).trans rfl
  have b1 : w.cell? ⟨n, 1, none⟩ = some (.slice A L.length c) := (cell_of_row w n 1 _ _ _ hb).trans rfl
  have hl := hr.1
  have HR := Lib.hid hr
  clear hb hr
  by_cases hlm : L.length ≤ m
  · have HL := Lib.hid (lastN_all m L hlm)
    go_enter Try.func11, Try.ntmps11
    go_wp2_with fail
    go_quiet (fail)
    have HB := Lib.hid (pw_below_drewN (Below.refl w.heap.size w) nq)
    obtain ⟨W, hW⟩ : ∃ W, w.drewN nq = W := ⟨_, rfl⟩
    have x1 : W.cell? ⟨n, 1, none⟩ = some (.slice A L.length c) := by rw [← hW]; exact b1
    have HR1 : Hid (Rd W A L) := Lib.hid (by rw [← hW]; exact HR.out)
    rw [hW] at HB ⊢
    clear hW b0 b1 HR
    go_wp2
    go_ret
    rw [HL.out]
    exact ⟨A, c, rfl, HR1.out, HB.out⟩
  · obtain ⟨i0, hi, hz0, hz1, hz2⟩ := info_parts infoI
    have HS := Lib.hid (cut_from (P := Try.prog) 32 2 .i64 Try.underlying32 hi 1 hz1 A L.length c ((L.length : Int) - m) (by omega) (by omega))
    obtain ⟨j, hj⟩ : ∃ j, L.length - m = j := ⟨_, rfl⟩
    have ej : ((L.length : Int) - m).toNat = j := by omega
    rw [ej] at HS
    have HA : ∃ A', (if c = j then A else A.map (·.add (j * 1))) = A' ∧ ∀ W, Rd W A L → Rd W A' (lastN m L) := by
      refine ⟨_, rfl, fun W h => ?_⟩
      refine ⟨by rw [lastN_length]; omega, fun hp => ?_⟩
      rw [lastN_length] at hp
      obtain ⟨a, rfl, hcell⟩ := h.2 (by omega)
      rw [if_neg (by omega), Nat.mul_one]
      refine ⟨a.add j, rfl, fun i hi => ?_⟩
      rw [lastN_length] at hi
      rw [Addr.add_add, lastN_getD, hj]
      exact hcell (j + i) (by omega)
    obtain ⟨A', hA', HA⟩ := HA
    have HA2 := Lib.hid HA
    rw [hA'] at HS
    have hll : (lastN m L).length = L.length - j := by rw [lastN_length]; omega
    have HL := Lib.hid hll
    clear HA hll hA' hi hz0 hz1 hz2
    have hs := HS.out
    go_enter Try.func11, Try.ntmps11
    go_wp2_with fail
    go_quiet (fail)
    have HB := Lib.hid (pw_below_drewN (Below.refl w.heap.size w) nq)
    obtain ⟨W, hW⟩ : ∃ W, w.drewN nq = W := ⟨_, rfl⟩
    have x0 : W.cell? ⟨n, 0, none⟩ = some (.int .i64 m) := by rw [← hW]; exact b0
    have x1 : W.cell? ⟨n, 1, none⟩ = some (.slice A L.length c) := by rw [← hW]; exact b1
    have HR1 : Hid (Rd W A' (lastN m L)) := Lib.hid (by rw [← hW]; exact HA2.out _ HR.out)
    rw [hW] at HB ⊢
    clear hW b0 b1 HR
    go_wp2_with fail
    go_quiet (fail)
    go_wp2
    go_ret
    rw [HL.out]
    exact ⟨A', c - j, rfl, HR1.out, pw_below_drewN HB.out _⟩

/-- works -/
theorem ring_len {T : TypeId} {w : World} {b most : Nat} {xs : List Value} (h : RingI T w b most xs) : xs.length ≤ 64 := by
  obtain ⟨f, P, _, _, l1, l2, _⟩ := h; omega
set_option maxRecDepth 100000 in
theorem works_calls (w : World) : Calls Try.prog 7 #[] w fun e w' => e = .returned (.bool true) ∧ Below w.heap.size w w' := by
  go_enter Try.func7, Try.ntmps7
  go_wp2_with fail
  refine (new_int 2 w (by decide)).mono ?_
  rintro e w1 ⟨rfl, hr, hB⟩
  have R1 := Lib.hid hr
  have B1 := Lib.hid hB
  obtain ⟨b, hb⟩ : ∃ b, w.heap.size = b := ⟨_, rfl⟩
  rw [hb] at R1 ⊢
  have HB := Lib.hid hb
  clear hr hB hb
  go_wp2_with fail
  refine (put_int b 2 _ 5 w1 R1.out).mono ?_
  rintro e w2 ⟨rfl, hr, ho⟩
  have R2 := Lib.hid hr
  have B2 := Lib.hid (ho.from B1.out (fun k hk => by rw [hk, HB.out]; exact Nat.le_refl _))
  clear hr ho R1 B1
  go_wp2_with fail
  refine (put_int b 2 _ 6 w2 R2.out).mono ?_
  rintro e w3 ⟨rfl, hr, ho⟩
  have R3 := Lib.hid hr
  have B3 := Lib.hid (ho.from B2.out (fun k hk => by rw [hk, HB.out]; exact Nat.le_refl _))
  clear hr ho R2 B2
  go_wp2_with fail
  refine (put_int b 2 _ 7 w3 R3.out).mono ?_
  rintro e w4 ⟨rfl, hr, ho⟩
  have R4 := Lib.hid (show RingI 83 w4 b 2 [.int .i64 6, .int .i64 7] from hr)
  have B4 := Lib.hid (ho.from B3.out (fun k hk => by rw [hk, HB.out]; exact Nat.le_refl _))
  clear hr ho R3 B3
  go_wp2_with fail
  refine (at_int b 2 _ w4 R4.out 0 (by simp) 6 rfl).mono ?_
  rintro e w5 ⟨rfl, rfl⟩
  have R5 : Hid (RingI 83 w4.drew b 2 [.int .i64 6, .int .i64 7]) := Lib.hid (R4.out.keep rfl)
  have B5 := Lib.hid B4.out.drew
  clear R4 B4
  go_wp2_with fail
  refine (len_int b 2 _ _ R5.out).mono ?_
  rintro e w5 ⟨rfl, rfl⟩
  go_wp2
  go_ret
  exact ⟨rfl, B5.out⟩

set_option maxRecDepth 100000 in
/-- at: what a ring tells at a place is the list's -/
theorem ask_calls (b most c : Nat) (A : Option Addr) (L : List Int) (n : Int) (w : World) (h : RingI 83 w b most (ints L)) (hr : Rd w A L) :
    Calls Try.prog 10 #[.pointer (some ⟨b, 0, none⟩), .slice A L.length c, .int .i64 n] w fun e w' => e = .returned (.bool true) ∧ Below w.heap.size w w' := by
  have hl : (ints L).length = L.length := by simp [ints]
  have h64 := ring_len h
  rw [hl] at h64
  by_cases hn : 0 ≤ n ∧ n < L.length
  · obtain ⟨i, rfl⟩ := Int.eq_ofNat_of_zero_le hn.1
    have hi : i < L.length := by omega
    have K := Lib.hid (at_int b most _ w h i (by omega) (L.getD i 0) (ints_getD L i hi))
    obtain ⟨a, rfl, hc⟩ := hr.2 (by omega)
    have x0 := hc i hi
    have x1 : w.drew.cell? (a.add i) = some (.int .i64 (L.getD i 0)) := x0
    obtain ⟨y, hy⟩ : ∃ y, L.getD i 0 = y := ⟨_, rfl⟩
    rw [hy] at K x0 x1
    clear hy hc hr h
    go_enter Try.func10, Try.ntmps10
    go_wp2_with fail
    refine K.out.mono ?_
    rintro e w' ⟨rfl, rfl⟩
    go_wp2
    go_ret
    exact ⟨rfl, (Below.refl _ _).drew⟩
  · have K := Lib.hid (atno_int b most _ w h n (by rw [hl]; exact hn))
    clear h hr
    by_cases h0 : n < 0
    · go_enter Try.func10, Try.ntmps10
      go_wp2_with fail
      refine K.out.mono ?_
      rintro e w' ⟨rfl, rfl⟩
      go_wp2
      go_ret
      exact ⟨rfl, Below.refl _ _⟩
    · have h1 : (L.length : Int) ≤ n := by omega
      go_enter Try.func10, Try.ntmps10
      go_wp2_with fail
      refine K.out.mono ?_
      rintro e w' ⟨rfl, rfl⟩
      go_wp2
      go_ret
      exact ⟨rfl, Below.refl _ _⟩
end Go.Proofs.Yteajaakhdnlpeaa.Q
