import Derived.Test.YtgjgafibipepeaaGreatDoorB4
import Derived.Lib.ItoaLen
namespace Go.Proofs.YtgjgafibipepeaaGreatDoor.Q
open Go.RowKit Go.Proofs.YtgjgafibipepeaaGreatDoorW.PrintWords Go.Deep Go.Maps Go.WideShapes Go.Lib
open Go.Proofs.YtgjgafibipepeaaGreatDoor.Pr (S39 S41 k39 k41 z39 z41 rd_T39 rd_T41 info39 info41)
open Go.Proofs.YtgjgafibipepeaaGreatDoor
set_option linter.unusedVariables false
set_option linter.unusedSimpArgs false
attribute [local go_sem] Oper.semAt_some
/-! MARKS -/
def markB (n : Int) : ByteArray := (⟨#[33]⟩ : ByteArray) ++ ⟨(Lib.itoa n).toArray⟩
theorem mark_calls (n : Int) (w : World) (h0 : -9223372036854775808 ≤ n) (h1 : n ≤ 9223372036854775807) (hE : Env w) : Calls Tryz.prog 26 #[.int .i64 n] w fun e w' => e = .returned (.string (markB n)) ∧ Below w.heap.size w w' := by
  have K : Calls Tryz.prog 66 #[.int .i64 n] w fun e w' => e = .returned (.string ⟨(Lib.itoa n).toArray⟩) ∧ Below w.heap.size w w' :=
    (Tryz.strconv_Itoa n h0 h1 w hE.pows).mono fun e w' ⟨he, k, os, hw⟩ => ⟨he, by subst hw; exact below_step (Drawn0.mk ⟨k, rfl⟩).below (below_regrown (w.drewN k) (w.drewN k).drawn os)⟩
  have hlen := Lib.itoa_length_le n h0 h1
  obtain ⟨t, ht⟩ : ∃ t : ByteArray, (⟨(Lib.itoa n).toArray⟩ : ByteArray) = t := ⟨_, rfl⟩
  have hs : t.size ≤ 21 := by rw [← ht]; simpa [ByteArray.size] using hlen
  unfold markB
  rw [ht] at K ⊢
  have K := Lib.hid K
  have hs1 : (⟨#[33]⟩ : ByteArray).size = 1 := rfl
  clear ht hlen hE
  go_enter Tryz.func26, Tryz.ntmps26
  go_wp2_with fail
  refine K.out.mono ?_
  rintro e w1 ⟨rfl, hB1⟩
  have HB1 := Lib.hid hB1
  clear hB1 K
  go_wp2
  go_ret
  exact ⟨rfl, HB1.out⟩
/-! WIDE LISTS -/
def markE (n : Int) : S41 := ⟨0, ⟨⟨#[]⟩, markB (-3000000 - n)⟩⟩
def wideE (l : List S41) : List S41 := l ++ (List.range 64).map (fun j => markE ((l.length + j : Nat) : Int))
theorem wideE_len (l : List S41) : (wideE l).length = l.length + 64 := by simp [wideE]
theorem wideE_lt (l : List S41) {i : Nat} (h : i < l.length) : (wideE l)[i]'(by rw [wideE_len]; omega) = l[i] := by
  unfold wideE; exact List.getElem_append_left h
theorem wideE_ge (l : List S41) {i : Nat} (h : l.length ≤ i) (h2 : i < l.length + 64) : (wideE l)[i]'(by rw [wideE_len]; omega) = markE i := by
  unfold wideE
  rw [List.getElem_append_right h]
  simp only [List.getElem_map, List.getElem_range]
  rw [show l.length + (i - l.length) = i by omega]
theorem fill_step {α : Type} (L : List α) (z : α) (i : Nat) (h : i < L.length) : ((L.take i) ++ List.replicate (L.length - i) z).set i L[i] = L.take (i + 1) ++ List.replicate (L.length - (i + 1)) z := by
  have hl : (L.take i).length = i := by rw [List.length_take]; omega
  rw [List.set_append_right _ _ (by omega), hl, Nat.sub_self, List.take_add_one, List.getElem?_eq_getElem h]
  obtain ⟨m, hm⟩ : ∃ m, L.length - i = m + 1 := ⟨L.length - i - 1, by omega⟩
  rw [hm, List.replicate_succ, List.set_cons_zero, show L.length - (i + 1) = m by omega, List.append_assoc]
  rfl
theorem fillE {w W : World} {g M cap : Nat} {l : List S41} {x : Int} (hwl : (wideE l).length = M)
    (HO : Kd.R k41 41 W w.heap.size (fun _ => True) (.slice (some ⟨g, 0, none⟩) M cap) ((wideE l).take x.toNat ++ List.replicate (M - x.toNat) z41)) (HB : Below w.heap.size w W) (q0 : 0 ≤ x) (c2 : x < (M : Int)) :
    (∃ u, W.cell? ⟨g, x.toNat * 3, none⟩ = some u) ∧ (∃ u, W.cell? ⟨g, x.toNat * 3 + 1, none⟩ = some u) ∧ (∃ u, W.cell? ⟨g, x.toNat * 3 + 2, none⟩ = some u) ∧
    W.frozen? ⟨g, x.toNat * 3, none⟩ = false ∧ W.frozen? ⟨g, x.toNat * 3 + 1, none⟩ = false ∧ W.frozen? ⟨g, x.toNat * 3 + 2, none⟩ = false ∧
    ∀ y : S41, (wideE l)[x.toNat]? = some y →
      Kd.R k41 41 (((W.setCell ⟨g, x.toNat * 3, none⟩ (.int .i8 y.f0)).setCell ⟨g, x.toNat * 3 + 1, none⟩ (.string y.f1.f0)).setCell ⟨g, x.toNat * 3 + 2, none⟩ (.string y.f1.f1)) w.heap.size (fun _ => True) (.slice (some ⟨g, 0, none⟩) M cap) ((wideE l).take (x + 1).toNat ++ List.replicate (M - (x + 1).toNat) z41) ∧
      Below w.heap.size w (((W.setCell ⟨g, x.toNat * 3, none⟩ (.int .i8 y.f0)).setCell ⟨g, x.toNat * 3 + 1, none⟩ (.string y.f1.f0)).setCell ⟨g, x.toNat * 3 + 2, none⟩ (.string y.f1.f1)) := by
  obtain ⟨cf, hcl, hNc, hcc, hfr⟩ := Kd.R_elem HO z41 x q0 c2
  obtain rfl := Pr.k41_openM hNc
  refine ⟨⟨_, hcc 0 _ rfl⟩, ⟨_, hcc 1 _ rfl⟩, ⟨_, hcc 2 _ rfl⟩, hfr 0, hfr 1, hfr 2, fun y hy => ?_⟩
  have h0 : x.toNat < (wideE l).length := by omega
  have h2 := fill_step (wideE l) z41 x.toNat h0
  rw [List.getElem?_eq_getElem h0] at hy
  rw [Option.some.inj hy, hwl] at h2
  have hs := Kd.R_seg HO x q0 c2 (seg := [.int .i8 y.f0, .string y.f1.f0, .string y.f1.f1]) (j := 0) (x' := y) hcl hcc (Nat.le_refl 3) (Pr.k41_mkM _ _ (fun _ => False) _) (fun _ h => h.elim)
  rw [h2, show x.toNat + 1 = (x + 1).toNat by omega] at hs
  exact ⟨hs.1, below_grownO HB (Nat.le_refl _) hs.2 fun k hk => by cases hk; exact Kd.R_base HO g (by simp [Value.ownBlock])⟩
set_option maxRecDepth 100000 in
set_option maxHeartbeats 4000000 in
theorem wideE_calls (A : Option Addr) (c : Nat) (l : List S41) (w : World) (hr : Kd.C k41 w A l.length l) (hc : l.length ≤ c) (hl : l.length ≤ 2147483648) (hE : Env w) :
    Calls Tryz.prog 7 #[.slice A l.length c] w fun e w' => ∃ g cap, e = .returned (.slice (some ⟨g, 0, none⟩) l.length cap) ∧ l.length + 64 ≤ cap ∧ Kd.R k41 41 w' w.heap.size (fun _ => True) (.slice (some ⟨g, 0, none⟩) (l.length + 64) cap) (wideE l) ∧ Below w.heap.size w w' := by
  have HR := Lib.hid hr
  have HE := Lib.hid hE
  obtain ⟨N, hN⟩ : ∃ N, l.length = N := ⟨_, rfl⟩
  rw [hN] at hc hl ⊢
  have HN := Lib.hid hN
  clear hr hE hN
  go_enter Tryz.func7, Tryz.ntmps7
  go_wp2_with (first
    | (refine Kd.R_make k41 (w0 := w) w.heap.size 41 rfl (N := 8) rfl 22 _ _ rfl ((N : Int) + 64) (by rfl) (by rfl) Tryz.underlying22 (.agg #[(.int .i8 0), (.string ⟨#[]⟩), (.string ⟨#[]⟩)]) 40 info41 rfl (by decide) (by omega) z41 (ok := fun _ => True) (okp := fun _ => False) (Pr.k41_mkM _ _ _ _) (fun _ h => h.elim) trivial (by omega) (by omega) (Below.refl _ _) (Nat.le_refl _) ?_; intro v1 w1 hR1 hB1 hg1 hf1))
  obtain ⟨g, cap, hv, hbg, hgl, _⟩ := Kd.R_form hR1 (by simp; omega)
  obtain ⟨M, hM⟩ : ∃ M, N + 64 = M := ⟨_, rfl⟩
  rw [List.length_replicate, show ((N : Int) + 64).toNat = M by omega] at hv
  rw [show ((N : Int) + 64).toNat = M by omega] at hR1
  subst hv
  have hcap : M ≤ cap := (Kd.R_reads' hR1).2.1
  have hwl : (wideE l).length = M := by rw [wideE_len, HN.out, hM]
  have HWL := Lib.hid hwl
  have HM := Lib.hid hM
  have hNM : N ≤ M := by omega
  have hM2 : M ≤ 2147483712 := by omega
  have HR1 : Hid (Kd.R k41 41 w1 w.heap.size (fun _ => True) (.slice (some ⟨g, 0, none⟩) M cap) ((wideE l).take 0 ++ List.replicate (M - 0) z41)) := Lib.hid hR1
  have HB1 := Lib.hid hB1
  have HI : Hid ((Tryz.prog.info? 41).map (·.size) = some 3) := Lib.hid (by kernel_rfl)
  clear hR1 hB1 hg1 hf1 hwl hgl hbg hM
  go_loopw [4] (fun vi wr => ∃ x : Int, vi = .int .i64 x ∧ 0 ≤ x ∧ x ≤ (M : Int) ∧ Hid (Kd.R k41 41 wr w.heap.size (fun _ => True) (.slice (some ⟨g, 0, none⟩) M cap) ((wideE l).take x.toNat ++ List.replicate (M - x.toNat) z41)) ∧ Hid (Below w.heap.size w wr)) (fun vi _ => ((M : Int) - intOf vi).toNat)
  case atStart => exact ⟨0, rfl, by omega, by omega, HR1, HB1⟩
  case round =>
  clear HR1 HB1
  obtain ⟨x, rfl, q0, hi, HO, HB⟩ := hrel
  by_cases c2 : x < (M : Int)
  · have q2 : decide (x < (M : Int)) = true := decide_eq_true c2
    have c2' := eq_true c2
    have q0' := eq_true q0
    by_cases c3 : x < (N : Int)
    · have q3 : decide (x < (N : Int)) = true := decide_eq_true c3
      have hr2 := HR.out
      rw [HN.out] at hr2
      obtain ⟨el, hel⟩ : ∃ y, rd_T41 l x = y := ⟨_, rfl⟩
      obtain ⟨ad, eA, hx0, hx1, hx2⟩ := Pr.at_T41 hr2 x q0 c3
      cases eA
      rw [hel] at hx0 hx1 hx2
      replace hx0 := pw_cell_below HB.out hx0
      replace hx1 := pw_cell_below HB.out hx1
      replace hx2 := pw_cell_below HB.out hx2
      have hlt : x.toNat < l.length := by rw [HN.out]; omega
      have HEL : Hid ((wideE l)[x.toNat]? = some el) := Lib.hid (by
        have h0 : x.toNat < (wideE l).length := by rw [HWL.out]; omega
        rw [List.getElem?_eq_getElem h0, wideE_lt l hlt, ← hel]; simp [rd_T41, List.getD, List.getElem?_eq_getElem hlt])
      obtain ⟨q, s, m⟩ := el
      dsimp only at hx0 hx1 hx2
      clear hr2 hel hlt
      have c3' := eq_true c3
      obtain ⟨⟨u0, k0⟩, ⟨u1, k1⟩, ⟨u2, k2⟩, f0, f1, f2, hnx⟩ := fillE HWL.out HO.out HB.out q0 c2
      have HNX := Lib.hid (hnx ⟨q, ⟨s, m⟩⟩ HEL.out)
      clear hnx
      go_wp2
      exact ⟨⟨x + 1, rfl, by omega, by omega, Lib.hid HNX.out.1, Lib.hid HNX.out.2⟩, by simp [intOf]; omega⟩
    · have q3 : decide (x < (N : Int)) = false := decide_eq_false c3
      have HEL : Hid ((wideE l)[x.toNat]? = some (markE x)) := Lib.hid (by
        have h0 : x.toNat < (wideE l).length := by rw [HWL.out]; omega
        rw [List.getElem?_eq_getElem h0, wideE_ge l (by rw [HN.out]; omega) (by rw [HN.out]; have := HM.out; omega)]
        congr 2; omega)
      have KM := Lib.hid (mark_calls (-3000000 - x) wr (by omega) (by omega) (HE.out.below HB.out))
      go_wp2_with fail
      refine KM.out.mono ?_
      rintro e w2 ⟨rfl, hB2⟩
      have HB2 := Lib.hid (below_step HB.out hB2)
      have hO2 := Kd.R_below HO.out hB2
      obtain ⟨⟨u0, k0⟩, ⟨u1, k1⟩, ⟨u2, k2⟩, f0, f1, f2, hnx⟩ := fillE HWL.out hO2 HB2.out q0 c2
      have HNX := Lib.hid (hnx (markE x) HEL.out)
      clear hnx hO2 hB2 KM
      go_wp2
      exact ⟨⟨x + 1, rfl, by omega, by omega, Lib.hid HNX.out.1, Lib.hid HNX.out.2⟩, by simp [intOf]; omega⟩
  · have q2 : decide (x < (M : Int)) = false := decide_eq_false c2
    have hxM : x.toNat = M := by omega
    have hO2 := HO.out
    rw [hxM, List.take_of_length_le (by rw [HWL.out]; omega), Nat.sub_self, List.replicate_zero, List.append_nil] at hO2
    have HO2 := Lib.hid hO2
    clear hO2 HO hxM
    have n0 : (0 : Int) ≤ (N : Int) := by omega
    have n1 : (N : Int) ≤ (cap : Int) := by omega
    have n1' : N ≤ cap := by omega
    go_wp2
    go_ret
    exact ⟨g, cap, rfl, by have := HM.out; omega, by rw [HM.out]; exact HO2.out, HB.out⟩
/-! WIDE LISTS OF IDS -/
def markI (n : Int) : S39 := ⟨⟨#[]⟩, markB (-3000000 - n)⟩
def wideI (l : List S39) : List S39 := l ++ (List.range 64).map (fun j => markI ((l.length + j : Nat) : Int))
theorem wideI_len (l : List S39) : (wideI l).length = l.length + 64 := by simp [wideI]
theorem wideI_lt (l : List S39) {i : Nat} (h : i < l.length) : (wideI l)[i]'(by rw [wideI_len]; omega) = l[i] := by
  unfold wideI; exact List.getElem_append_left h
theorem wideI_ge (l : List S39) {i : Nat} (h : l.length ≤ i) (h2 : i < l.length + 64) : (wideI l)[i]'(by rw [wideI_len]; omega) = markI i := by
  unfold wideI
  rw [List.getElem_append_right h]
  simp only [List.getElem_map, List.getElem_range]
  rw [show l.length + (i - l.length) = i by omega]
theorem fillI {w W : World} {g M cap : Nat} {l : List S39} {x : Int} (hwl : (wideI l).length = M)
    (HO : Kd.R k39 39 W w.heap.size (fun _ => True) (.slice (some ⟨g, 0, none⟩) M cap) ((wideI l).take x.toNat ++ List.replicate (M - x.toNat) z39)) (HB : Below w.heap.size w W) (q0 : 0 ≤ x) (c2 : x < (M : Int)) :
    (∃ u, W.cell? ⟨g, x.toNat * 2, none⟩ = some u) ∧ (∃ u, W.cell? ⟨g, x.toNat * 2 + 1, none⟩ = some u) ∧
    W.frozen? ⟨g, x.toNat * 2, none⟩ = false ∧ W.frozen? ⟨g, x.toNat * 2 + 1, none⟩ = false ∧
    ∀ y : S39, (wideI l)[x.toNat]? = some y →
      Kd.R k39 39 ((W.setCell ⟨g, x.toNat * 2, none⟩ (.string y.f0)).setCell ⟨g, x.toNat * 2 + 1, none⟩ (.string y.f1)) w.heap.size (fun _ => True) (.slice (some ⟨g, 0, none⟩) M cap) ((wideI l).take (x + 1).toNat ++ List.replicate (M - (x + 1).toNat) z39) ∧
      Below w.heap.size w ((W.setCell ⟨g, x.toNat * 2, none⟩ (.string y.f0)).setCell ⟨g, x.toNat * 2 + 1, none⟩ (.string y.f1)) := by
  obtain ⟨cf, hcl, hNc, hcc, hfr⟩ := Kd.R_elem HO z39 x q0 c2
  obtain rfl := Pr.k39_openM hNc
  refine ⟨⟨_, hcc 0 _ rfl⟩, ⟨_, hcc 1 _ rfl⟩, hfr 0, hfr 1, fun y hy => ?_⟩
  have h0 : x.toNat < (wideI l).length := by omega
  have h2 := fill_step (wideI l) z39 x.toNat h0
  rw [List.getElem?_eq_getElem h0] at hy
  rw [Option.some.inj hy, hwl] at h2
  have hs := Kd.R_seg HO x q0 c2 (seg := [.string y.f0, .string y.f1]) (j := 0) (x' := y) hcl hcc (Nat.le_refl 2) (Pr.k39_mkM _ _ (fun _ => False) _) (fun _ h => h.elim)
  rw [h2, show x.toNat + 1 = (x + 1).toNat by omega] at hs
  exact ⟨hs.1, below_grownO HB (Nat.le_refl _) hs.2 fun k hk => by cases hk; exact Kd.R_base HO g (by simp [Value.ownBlock])⟩
set_option maxRecDepth 100000 in
set_option maxHeartbeats 4000000 in
theorem wideI_calls (A : Option Addr) (c : Nat) (l : List S39) (w : World) (hr : Kd.C k39 w A l.length l) (hc : l.length ≤ c) (hl : l.length ≤ 2147483648) (hE : Env w) :
    Calls Tryz.prog 8 #[.slice A l.length c] w fun e w' => ∃ g cap, e = .returned (.slice (some ⟨g, 0, none⟩) l.length cap) ∧ l.length + 64 ≤ cap ∧ Kd.R k39 39 w' w.heap.size (fun _ => True) (.slice (some ⟨g, 0, none⟩) (l.length + 64) cap) (wideI l) ∧ Below w.heap.size w w' := by
  have HR := Lib.hid hr
  have HE := Lib.hid hE
  obtain ⟨N, hN⟩ : ∃ N, l.length = N := ⟨_, rfl⟩
  rw [hN] at hc hl ⊢
  have HN := Lib.hid hN
  clear hr hE hN
  go_enter Tryz.func8, Tryz.ntmps8
  go_wp2_with (first
    | (refine Kd.R_make k39 (w0 := w) w.heap.size 39 rfl (N := 8) rfl 23 _ _ rfl ((N : Int) + 64) (by rfl) (by rfl) Tryz.underlying23 (.agg #[(.string ⟨#[]⟩), (.string ⟨#[]⟩)]) 32 info39 rfl (by decide) (by omega) z39 (ok := fun _ => True) (okp := fun _ => False) (Pr.k39_mkM _ _ _ _) (fun _ h => h.elim) trivial (by omega) (by omega) (Below.refl _ _) (Nat.le_refl _) ?_; intro v1 w1 hR1 hB1 hg1 hf1))
  obtain ⟨g, cap, hv, hbg, hgl, _⟩ := Kd.R_form hR1 (by simp; omega)
  obtain ⟨M, hM⟩ : ∃ M, N + 64 = M := ⟨_, rfl⟩
  rw [List.length_replicate, show ((N : Int) + 64).toNat = M by omega] at hv
  rw [show ((N : Int) + 64).toNat = M by omega] at hR1
  subst hv
  have hcap : M ≤ cap := (Kd.R_reads' hR1).2.1
  have hwl : (wideI l).length = M := by rw [wideI_len, HN.out, hM]
  have HWL := Lib.hid hwl
  have HM := Lib.hid hM
  have hNM : N ≤ M := by omega
  have hM2 : M ≤ 2147483712 := by omega
  have HR1 : Hid (Kd.R k39 39 w1 w.heap.size (fun _ => True) (.slice (some ⟨g, 0, none⟩) M cap) ((wideI l).take 0 ++ List.replicate (M - 0) z39)) := Lib.hid hR1
  have HB1 := Lib.hid hB1
  have HI : Hid ((Tryz.prog.info? 39).map (·.size) = some 2) := Lib.hid (by kernel_rfl)
  clear hR1 hB1 hg1 hf1 hwl hgl hbg hM
  go_loopw [4] (fun vi wr => ∃ x : Int, vi = .int .i64 x ∧ 0 ≤ x ∧ x ≤ (M : Int) ∧ Hid (Kd.R k39 39 wr w.heap.size (fun _ => True) (.slice (some ⟨g, 0, none⟩) M cap) ((wideI l).take x.toNat ++ List.replicate (M - x.toNat) z39)) ∧ Hid (Below w.heap.size w wr)) (fun vi _ => ((M : Int) - intOf vi).toNat)
  case atStart => exact ⟨0, rfl, by omega, by omega, HR1, HB1⟩
  case round =>
  clear HR1 HB1
  obtain ⟨x, rfl, q0, hi, HO, HB⟩ := hrel
  by_cases c2 : x < (M : Int)
  · have q2 : decide (x < (M : Int)) = true := decide_eq_true c2
    have c2' := eq_true c2
    have q0' := eq_true q0
    by_cases c3 : x < (N : Int)
    · have q3 : decide (x < (N : Int)) = true := decide_eq_true c3
      have hr2 := HR.out
      rw [HN.out] at hr2
      obtain ⟨el, hel⟩ : ∃ y, rd_T39 l x = y := ⟨_, rfl⟩
      obtain ⟨ad, eA, hx0, hx1⟩ := Pr.at_T39 hr2 x q0 c3
      cases eA
      rw [hel] at hx0 hx1
      replace hx0 := pw_cell_below HB.out hx0
      replace hx1 := pw_cell_below HB.out hx1
      have hlt : x.toNat < l.length := by rw [HN.out]; omega
      have HEL : Hid ((wideI l)[x.toNat]? = some el) := Lib.hid (by
        have h0 : x.toNat < (wideI l).length := by rw [HWL.out]; omega
        rw [List.getElem?_eq_getElem h0, wideI_lt l hlt, ← hel]; simp [rd_T39, List.getD, List.getElem?_eq_getElem hlt])
      obtain ⟨s, m⟩ := el
      dsimp only at hx0 hx1
      clear hr2 hel hlt
      have c3' := eq_true c3
      obtain ⟨⟨u0, k0⟩, ⟨u1, k1⟩, f0, f1, hnx⟩ := fillI HWL.out HO.out HB.out q0 c2
      have HNX := Lib.hid (hnx ⟨s, m⟩ HEL.out)
      clear hnx
      go_wp2
      exact ⟨⟨x + 1, rfl, by omega, by omega, Lib.hid HNX.out.1, Lib.hid HNX.out.2⟩, by simp [intOf]; omega⟩
    · have q3 : decide (x < (N : Int)) = false := decide_eq_false c3
      have HEL : Hid ((wideI l)[x.toNat]? = some (markI x)) := Lib.hid (by
        have h0 : x.toNat < (wideI l).length := by rw [HWL.out]; omega
        rw [List.getElem?_eq_getElem h0, wideI_ge l (by rw [HN.out]; omega) (by rw [HN.out]; have := HM.out; omega)]
        congr 2; omega)
      have KM := Lib.hid (mark_calls (-3000000 - x) wr (by omega) (by omega) (HE.out.below HB.out))
      go_wp2_with fail
      refine KM.out.mono ?_
      rintro e w2 ⟨rfl, hB2⟩
      have HB2 := Lib.hid (below_step HB.out hB2)
      have hO2 := Kd.R_below HO.out hB2
      obtain ⟨⟨u0, k0⟩, ⟨u1, k1⟩, f0, f1, hnx⟩ := fillI HWL.out hO2 HB2.out q0 c2
      have HNX := Lib.hid (hnx (markI x) HEL.out)
      clear hnx hO2 hB2 KM
      go_wp2
      exact ⟨⟨x + 1, rfl, by omega, by omega, Lib.hid HNX.out.1, Lib.hid HNX.out.2⟩, by simp [intOf]; omega⟩
  · have q2 : decide (x < (M : Int)) = false := decide_eq_false c2
    have hxM : x.toNat = M := by omega
    have hO2 := HO.out
    rw [hxM, List.take_of_length_le (by rw [HWL.out]; omega), Nat.sub_self, List.replicate_zero, List.append_nil] at hO2
    have HO2 := Lib.hid hO2
    clear hO2 HO hxM
    have n0 : (0 : Int) ≤ (N : Int) := by omega
    have n1 : (N : Int) ≤ (cap : Int) := by omega
    have n1' : N ≤ cap := by omega
    go_wp2
    go_ret
    exact ⟨g, cap, rfl, by have := HM.out; omega, by rw [HM.out]; exact HO2.out, HB.out⟩
end Go.Proofs.YtgjgafibipepeaaGreatDoor.Q
