import Derived.Test.YtgjgafibipepeaaGreatDoorC1
import Derived.Test.YtgjgafibipepeaaGreatDoorB7
import Derived.Test.YtgjgafibipepeaaGreatDoorC2
namespace Go.Proofs.YtgjgafibipepeaaGreatDoor.Q
open Go.RowKit Go.Proofs.YtgjgafibipepeaaGreatDoorW.PrintWords Go.Deep Go.Maps Go.WideShapes Go.Lib
open Go.Proofs.YtgjgafibipepeaaGreatDoor.Pr (S39 S41 k39 k41 z39 z41 rd_T39 rd_T41)
open Go.Proofs.YtgjgafibipepeaaGreatDoor
set_option linter.unusedVariables false
set_option linter.unusedSimpArgs false
attribute [local go_sem] Oper.semAt_some
theorem eqIds_self (l : List S39) (hl : l.length ≤ 4294967296) : ∃ k, Pr.lagoonref00_EqIds.f k l l = some true := by
  have go : ∀ d i k, i + d = l.length → d < k → Pr.lagoonref00_EqIds.l0 k l l (i : Int) = some true := by
    intro d
    induction d with
    | zero =>
      intro i k hi hk
      obtain ⟨k, rfl⟩ : ∃ m, k = m + 1 := ⟨k - 1, by omega⟩
      rw [Pr.lagoonref00_EqIds.l0, if_neg (by omega)]
    | succ d ih =>
      intro i k hi hk
      obtain ⟨k, rfl⟩ : ∃ m, k = m + 1 := ⟨k - 1, by omega⟩
      rw [Pr.lagoonref00_EqIds.l0, if_pos (by omega), if_pos (by omega), if_pos (by omega), if_neg (by simp), w64 (by omega) (by omega)]
      exact ih (i + 1) k (by omega) (by omega)
  exact ⟨l.length + 1, by unfold Pr.lagoonref00_EqIds.f; rw [if_pos rfl]; exact go l.length 0 _ (by omega) (by omega)⟩
/-- a list that stands at the head of another one -/
theorem takeC {α : Type} {d : Kd α} {w : World} {A : Option Addr} {l l' : List α} (hle : l.length ≤ l'.length) (hp : l'.take l.length = l) (h : Kd.C d w A l'.length l') : Kd.C d w A l.length l := by
  refine ⟨rfl, by have := h.2.1; omega, fun h0 => ?_⟩
  obtain ⟨ad, e, hc⟩ := h.2.2 (by omega)
  refine ⟨ad, e, fun j p hj => hc j p ?_⟩
  rw [← hp, List.getElem?_take] at hj
  split at hj
  · exact hj
  · cases hj
/-! ARE THE MARKS THERE? -/
set_option maxRecDepth 100000 in
set_option maxHeartbeats 4000000 in
theorem spareE_calls (a : Addr) (cap : Nat) (l : List S41) (w : World) (hr : Kd.C k41 w (some a) (l.length + 64) (wideE l)) (hc : l.length + 64 ≤ cap) (hl : l.length ≤ 2147483648) (hE : Env w) :
    Calls Tryz.prog 14 #[.slice (some a) l.length cap] w fun e w' => e = .returned (.bool true) ∧ Below w.heap.size w w' := by
  have HR := Lib.hid hr
  have HE := Lib.hid hE
  obtain ⟨N, hN⟩ : ∃ N, l.length = N := ⟨_, rfl⟩
  obtain ⟨M, hM⟩ : ∃ M, N + 64 = M := ⟨_, rfl⟩
  rw [hN] at hc hl ⊢
  have HN := Lib.hid hN
  have HM := Lib.hid hM
  have n0 : (0 : Int) ≤ (N : Int) + 64 := by omega
  have n1 : (N : Int) + 64 ≤ (cap : Int) := by omega
  have n2 : ((N : Int) + 64).toNat = M := by omega
  have hM2 : M ≤ 2147483712 := by omega
  have hNM : N ≤ M := by omega
  clear hr hE hN hM hc
  go_enter Tryz.func14, Tryz.ntmps14
  go_wp2_with fail
  go_loopw [4] (fun vi wr => ∃ x : Int, vi = .int .i64 x ∧ (N : Int) ≤ x ∧ x ≤ (M : Int) ∧ Hid (Below w.heap.size w wr)) (fun vi _ => ((M : Int) - intOf vi).toNat)
  case atStart => exact ⟨N, rfl, by omega, by omega, Lib.hid (Below.refl _ _)⟩
  case round =>
  obtain ⟨x, rfl, q0, hi, HB⟩ := hrel
  by_cases c2 : x < (M : Int)
  · have q2 : decide (x < (M : Int)) = true := decide_eq_true c2
    have x0 : 0 ≤ x := by omega
    have hr2 := HR.out
    obtain ⟨ad, eA, hx0, hx1, hx2⟩ := Pr.at_T41 hr2 x x0 (by have := HN.out; have := HM.out; omega)
    cases eA
    have hel : rd_T41 (wideE l) x = markE x := by
      have h0 : x.toNat < (wideE l).length := by rw [wideE_len, HN.out]; have := HM.out; omega
      have h1 := wideE_ge l (i := x.toNat) (by rw [HN.out]; omega) (by rw [HN.out]; have := HM.out; omega)
      have h2 : ((x.toNat : Nat) : Int) = x := by omega
      rw [h2] at h1
      rw [← h1]
      simp [rd_T41, List.getD, List.getElem?_eq_getElem h0]
    rw [hel] at hx2
    replace hx2 := pw_cell_below HB.out hx2
    rw [show (markE x).f1.f1 = markB (-3000000 - x) from rfl] at hx2
    have k1 : ∀ dd os, Calls Tryz.prog 26 #[.int .i64 (-3000000 - x)] (Go.Sort.grow (redrawn wr dd) os) fun e w'' => e = .returned (.string (markB (-3000000 - x))) ∧ ∃ p : Regrown, w'' = Go.Sort.grow (redrawn wr p.d) p.os := fun dd os => Calls.regrown_of (mark_calls (-3000000 - x) _ (by omega) (by omega) ((HE.out.below HB.out).below (below_regrown wr dd os)))
    obtain ⟨nm, hnm⟩ : ∃ b, markB (-3000000 - x) = b := ⟨_, rfl⟩
    rw [hnm] at hx2 k1
    have y2 := cell_regrown hx2
    have x0' := eq_true x0
    have c2' := eq_true c2
    clear hr2 hx0 hx1 hx2 hnm hel
    go_wp2_with fail
    refine wp_region_quiet_below (by kernel_rfl) (by kernel_rfl) ?_
    repeat (go_big_quiet_step (first | (with_reducible exact k1 _ _)))
    refine wpQuiet_nil ?_
    intro _ hw'
    obtain ⟨⟨dq, osq⟩, hw''⟩ := hw'
    subst hw''
    have HB7 := Lib.hid (below_step HB.out (below_regrown wr dq osq))
    obtain ⟨W7, hW7⟩ : ∃ V, Go.Sort.grow (redrawn wr dq) osq = V := ⟨_, rfl⟩
    rw [hW7] at HB7
    simp only [hW7]
    clear y2 k1 hW7 HB
    go_wp2
    exact ⟨⟨x + 1, rfl, by omega, by omega, HB7⟩, by simp [intOf]; omega⟩
  · have q2 : decide (x < (M : Int)) = false := decide_eq_false c2
    go_wp2
    go_ret
    exact ⟨rfl, HB.out⟩
set_option maxRecDepth 100000 in
set_option maxHeartbeats 4000000 in
theorem spareI_calls (a : Addr) (cap : Nat) (l : List S39) (w : World) (hr : Kd.C k39 w (some a) (l.length + 64) (wideI l)) (hc : l.length + 64 ≤ cap) (hl : l.length ≤ 2147483648) (hE : Env w) :
    Calls Tryz.prog 16 #[.slice (some a) l.length cap] w fun e w' => e = .returned (.bool true) ∧ Below w.heap.size w w' := by
  have HR := Lib.hid hr
  have HE := Lib.hid hE
  obtain ⟨N, hN⟩ : ∃ N, l.length = N := ⟨_, rfl⟩
  obtain ⟨M, hM⟩ : ∃ M, N + 64 = M := ⟨_, rfl⟩
  rw [hN] at hc hl ⊢
  have HN := Lib.hid hN
  have HM := Lib.hid hM
  have n0 : (0 : Int) ≤ (N : Int) + 64 := by omega
  have n1 : (N : Int) + 64 ≤ (cap : Int) := by omega
  have n2 : ((N : Int) + 64).toNat = M := by omega
  have hM2 : M ≤ 2147483712 := by omega
  have hNM : N ≤ M := by omega
  clear hr hE hN hM hc
  go_enter Tryz.func16, Tryz.ntmps16
  go_wp2_with fail
  go_loopw [4] (fun vi wr => ∃ x : Int, vi = .int .i64 x ∧ (N : Int) ≤ x ∧ x ≤ (M : Int) ∧ Hid (Below w.heap.size w wr)) (fun vi _ => ((M : Int) - intOf vi).toNat)
  case atStart => exact ⟨N, rfl, by omega, by omega, Lib.hid (Below.refl _ _)⟩
  case round =>
  obtain ⟨x, rfl, q0, hi, HB⟩ := hrel
  by_cases c2 : x < (M : Int)
  · have q2 : decide (x < (M : Int)) = true := decide_eq_true c2
    have x0 : 0 ≤ x := by omega
    have hr2 := HR.out
    obtain ⟨ad, eA, hx0, hx2⟩ := Pr.at_T39 hr2 x x0 (by have := HN.out; have := HM.out; omega)
    cases eA
    have hel : rd_T39 (wideI l) x = markI x := by
      have h0 : x.toNat < (wideI l).length := by rw [wideI_len, HN.out]; have := HM.out; omega
      have h1 := wideI_ge l (i := x.toNat) (by rw [HN.out]; omega) (by rw [HN.out]; have := HM.out; omega)
      have h2 : ((x.toNat : Nat) : Int) = x := by omega
      rw [h2] at h1
      rw [← h1]
      simp [rd_T39, List.getD, List.getElem?_eq_getElem h0]
    rw [hel] at hx2
    replace hx2 := pw_cell_below HB.out hx2
    rw [show (markI x).f1 = markB (-3000000 - x) from rfl] at hx2
    have k1 : ∀ dd os, Calls Tryz.prog 26 #[.int .i64 (-3000000 - x)] (Go.Sort.grow (redrawn wr dd) os) fun e w'' => e = .returned (.string (markB (-3000000 - x))) ∧ ∃ p : Regrown, w'' = Go.Sort.grow (redrawn wr p.d) p.os := fun dd os => Calls.regrown_of (mark_calls (-3000000 - x) _ (by omega) (by omega) ((HE.out.below HB.out).below (below_regrown wr dd os)))
    obtain ⟨nm, hnm⟩ : ∃ b, markB (-3000000 - x) = b := ⟨_, rfl⟩
    rw [hnm] at hx2 k1
    have y2 := cell_regrown hx2
    have x0' := eq_true x0
    have c2' := eq_true c2
    clear hr2 hx0 hx2 hnm hel
    go_wp2_with fail
    refine wp_region_quiet_below (by kernel_rfl) (by kernel_rfl) ?_
    repeat (go_big_quiet_step (first | (with_reducible exact k1 _ _)))
    refine wpQuiet_nil ?_
    intro _ hw'
    obtain ⟨⟨dq, osq⟩, hw''⟩ := hw'
    subst hw''
    have HB7 := Lib.hid (below_step HB.out (below_regrown wr dq osq))
    obtain ⟨W7, hW7⟩ : ∃ V, Go.Sort.grow (redrawn wr dq) osq = V := ⟨_, rfl⟩
    rw [hW7] at HB7
    simp only [hW7]
    clear y2 k1 hW7 HB
    go_wp2
    exact ⟨⟨x + 1, rfl, by omega, by omega, HB7⟩, by simp [intOf]; omega⟩
  · have q2 : decide (x < (M : Int)) = false := decide_eq_false c2
    go_wp2
    go_ret
    exact ⟨rfl, HB.out⟩
end Go.Proofs.YtgjgafibipepeaaGreatDoor.Q
