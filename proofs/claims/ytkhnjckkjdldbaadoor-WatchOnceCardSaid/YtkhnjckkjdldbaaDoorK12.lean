import Derived.Test.YtkhnjckkjdldbaaDoorK11
import Derived.Test.YtkhnjckkjdldbaaDoorBag
namespace Go.Proofs.YtkhnjckkjdldbaaDoor.Q
open Go.RowKit Go.Proofs.YtkhnjckkjdldbaaDoorW.PrintWords Go.Deep Go.Maps Go.WideShapes
open Go.Proofs.YtkhnjckkjdldbaaDoor.Pr (S30 S32 z30 k30 k32 rd_T30)
open Go.Proofs.YtkhnjckkjdldbaaDoor
open Go.Proofs.YtkhnjckkjdldbaaDoor.Bag (own_lower Row R_of_row)
set_option linter.unusedVariables false
set_option linter.unusedSimpArgs false
attribute [local go_sem] Oper.semAt_some
attribute [local go_sem high] Pr.eqA30
/-! WATCHPARTS -/
theorem row_CW {W : World} {base : Nat} {v : Value} {xs : List S30} (h : Row encW 3 base 30 W v xs) : ∃ A c, v = .slice A xs.length c ∧ xs.length ≤ c ∧ Kd.C k30 W A xs.length xs := by
  obtain ⟨A, c, h1, h2⟩ := h.slice
  have hR := R_of_row (d := k30) rfl (fun _ => rfl) (fun w b o x => Pr.k30_mkM w b o x) h
  rw [h1] at hR
  exact ⟨A, c, h1, h2, (Kd.R_reads' hR).2.2⟩
theorem filter_at {α : Type} (q : α → Bool) (l : List α) (i : Nat) (hi : i < l.length) (hq : q l[i] = true) : (l.filter q)[((l.take i).filter q).length]? = some l[i] := by
  have hsp : l = l.take i ++ l[i] :: l.drop (i + 1) := by rw [← List.drop_eq_getElem_cons hi, List.take_append_drop]
  have h1 : l.filter q = (l.take i).filter q ++ l[i] :: (l.drop (i + 1)).filter q := by
    conv => lhs; rw [hsp]
    rw [List.filter_append, List.filter_cons_of_pos hq]
  rw [h1, List.getElem?_append_right (Nat.le_refl _), Nat.sub_self]; rfl
theorem filter_next {α : Type} (q : α → Bool) (l : List α) (i : Nat) (hi : i < l.length) : ((l.take (i + 1)).filter q).length = ((l.take i).filter q).length + (if q l[i] = true then 1 else 0) := by
  rw [List.take_add_one, List.getElem?_eq_getElem hi, List.filter_append, List.length_append]
  by_cases h : q l[i] = true
  · simp [h]
  · simp [h]
theorem path_small {p : ByteArray} (h : isPathB p = true) : p.size ≤ 64 := by
  unfold isPathB at h
  rw [beq_iff_eq] at h
  unfold checkP at h
  split at h
  · cases h
  · split at h
    · rename_i h2
      rw [Lib.toList_data] at h2
      rw [Lib.size_eq, h2]; decide
    · split at h
      · cases h
      · split at h
        · cases h
        · omega
theorem addB_mono (P : WN) (came : Int) (x : S30) : (∀ p ∈ P, p ∈ (addB P came x).2.1) ∧ P.length ≤ (addB P came x).2.1.length ∧ (addB P came x).2.2 ≤ came + 1 ∧ (rightB x = true → (∃ n, (x, n) ∈ (addB P came x).2.1) ∨ 64 ≤ (addB P came x).2.1.length) := by
  unfold addB
  split
  · rename_i h
    refine ⟨fun p hp => hp, Nat.le_refl _, by simp only; omega, fun hr => ?_⟩
    unfold rightB at hr
    rw [Bool.and_eq_true] at hr
    exact absurd hr h
  · split
    · rename_i h
      exact ⟨fun p hp => hp, Nat.le_refl _, by simp only; omega, fun _ => .inl (inB_iff.1 h)⟩
    · split
      · rename_i h
        exact ⟨fun p hp => hp, Nat.le_refl _, by simp only; omega, fun _ => .inr h⟩
      · exact ⟨fun p hp => List.mem_append_left _ hp, by simp, by simp only; omega, fun _ => .inl ⟨came, by simp⟩⟩
structure AddsI (c b : Nat) (adds : List S30) (w : World) (i : Nat) (W : World) : Prop where
  st : ∃ P came, Brd c b came P W ∧ came ≤ (i : Int) ∧ ∀ j (hj : j < adds.length), j < i → rightB adds[j] = true → (∃ n, (adds[j], n) ∈ P) ∨ 64 ≤ P.length
  bel : Below w.heap.size w W
theorem AddsI.next {c b : Nat} {adds : List S30} {w : World} {i : Nat} {W W' : World} {P : WN} {came : Int} (hb : came ≤ (i : Int)) (hcov : ∀ j (hj : j < adds.length), j < i → rightB adds[j] = true → (∃ n, (adds[j], n) ∈ P) ∨ 64 ≤ P.length)
    (hi : i < adds.length) (hbr : Brd c b (addB P came adds[i]).2.2 (addB P came adds[i]).2.1 W') (hB : Below w.heap.size w W') : AddsI c b adds w (i + 1) W' := by
  obtain ⟨h1, h2, h3, h4⟩ := addB_mono P came adds[i]
  refine ⟨⟨_, _, hbr, by omega, fun j hj hji hr => ?_⟩, hB⟩
  by_cases e : j = i
  · subst e; exact h4 hr
  · rcases hcov j hj (by omega) hr with ⟨n, hn⟩ | h
    · exact .inl ⟨n, h1 _ hn⟩
    · exact .inr (by omega)
theorem AddsI.skip {c b : Nat} {adds : List S30} {w : World} {i : Nat} {W : World} (h : AddsI c b adds w i W) (hi : i < adds.length) (hs : 64 < adds[i].f2.size) : AddsI c b adds w (i + 1) W := by
  obtain ⟨P, came, hbr, h1, h2⟩ := h.st
  refine ⟨⟨P, came, hbr, by omega, fun j hj hji hr => ?_⟩, h.bel⟩
  by_cases e : j = i
  · subst e
    unfold rightB at hr
    rw [Bool.and_eq_true] at hr
    have := path_small hr.2
    omega
  · exact h2 j hj (by omega) hr
set_option maxRecDepth 100000 in
set_option maxHeartbeats 8000000 in
theorem watchParts_calls (A0 : Option Addr) (c0 : Nat) (adds : List S30) (client : Int) (clr : Bool) (w : World) (hr0 : Kd.C k30 w A0 adds.length adds) (hc0 : adds.length ≤ c0) (hl0 : adds.length ≤ 9223372036854775807) (hwf : ∀ x ∈ adds, wfW x) (hsm : ∀ x ∈ adds, x.f2.size ≤ 2147483648) (hT : Tabs w) :
    Calls Tryd.prog 4 #[.slice A0 adds.length c0, .int .i64 client, .bool clr] w fun e w' => e = .returned (.bool true) ∧ Below w.heap.size w w' := by
  have HR0 := Lib.hid hr0
  have HWF := Lib.hid hwf
  have HSM := Lib.hid hsm
  have HT := Lib.hid hT
  obtain ⟨N, hN⟩ : ∃ n, adds.length = n := ⟨_, rfl⟩
  have HN := Lib.hid hN
  rw [hN] at hc0 hl0 ⊢
  have KL := Lib.hid (lives_calls w hT)
  clear hr0 hwf hsm hT hN
  by_cases cbig : 1073741823 < (N : Int)
  · have q1 : decide (1073741823 < (N : Int)) = true := decide_eq_true cbig
    go_enter Tryd.func4, Tryd.ntmps4
    go_wp2
    go_ret
    exact ⟨rfl, Below.refl _ _⟩
  have q1 : decide (1073741823 < (N : Int)) = false := decide_eq_false cbig
  go_enter Tryd.func4, Tryd.ntmps4
  go_wp2_with fail
  refine KL.out.mono ?_
  rintro e w1 ⟨rfl, hB⟩
  have HB1 := Lib.hid hB
  have KN := Lib.hid (newB_calls w1)
  clear hB KL q1
  go_wp2_with fail
  refine KN.out.mono ?_
  rintro e w2 ⟨c, b, rfl, hbr, hB, hbw, hcw⟩
  have HB2 := Lib.hid (below_step HB1.out hB)
  have HBC : Hid (w.heap.size ≤ b ∧ w.heap.size ≤ c) := Lib.hid (by have := HB1.out.size; omega)
  have HI0 : Hid (AddsI c b adds w 0 w2) := Lib.hid ⟨⟨[], 0, hbr, by omega, fun j hj h => absurd h (Nat.not_lt_zero _)⟩, HB2.out⟩
  clear hbr hB hbw hcw KN
  go_wp2_with fail
  go_loopw [9] (fun vi wr => ∃ x : Int, vi = .int .i64 x ∧ 0 ≤ x ∧ x ≤ (N : Int) ∧ Hid (AddsI c b adds w x.toNat wr)) (fun vi _ => ((N : Int) - intOf vi).toNat)
  case atStart => exact ⟨0, rfl, by omega, by omega, HI0⟩
  case round =>
  clear HI0
  obtain ⟨x, rfl, x0, xn, HA⟩ := hrel
  by_cases c2 : x < (N : Int)
  · have q2 : decide (x < (N : Int)) = true := decide_eq_true c2
    have hx : x.toNat < adds.length := by rw [HN.out]; omega
    have hC := Kd.C_below HR0.out HA.out.bel
    obtain ⟨ad, eA, o0, o1, o2⟩ := Pr.at_T30 hC x x0 (by rw [HN.out]; exact c2)
    have hrd : rd_T30 adds x = adds[x.toNat] := by simp [rd_T30, List.getD, List.getElem?_eq_getElem hx]
    rw [hrd] at o0 o1 o2
    subst eA
    obtain ⟨y, hy⟩ : ∃ y, adds[x.toNat] = y := ⟨_, rfl⟩
    rw [hy] at o0 o1 o2
    have HY := Lib.hid hy
    have x0' := eq_true x0
    have c2' := eq_true c2
    obtain ⟨a, k, p⟩ := y
    simp only at o0 o1 o2
    clear hC hrd hy
    by_cases c3 : p.size ≤ 64
    · have q3 : decide ((p.size : Int) ≤ 64) = true := decide_eq_true (by omega)
      obtain ⟨P, came, hbr, hcame, hcov⟩ := HA.out.st
      have hwy : wfW ⟨a, k, p⟩ := by rw [← HY.out]; exact HWF.out _ (List.getElem_mem _)
      have KA := Lib.hid (add_calls ⟨a, k, p⟩ hbr hwy (by show p.size ≤ _; omega) (by omega) (tabs_from HT.out HA.out.bel))
      have HCV := Lib.hid (And.intro hcame hcov)
      clear hbr hcame hcov hwy
      go_wp2_with fail
      refine KA.out.mono ?_
      rintro e w3 ⟨rfl, hbr, ho⟩
      have HA3 : Hid (AddsI c b adds w (x.toNat + 1) w3) := Lib.hid (by
        refine AddsI.next (W := wr) HCV.out.1 HCV.out.2 hx (by rw [HY.out]; exact hbr) (ho.from HA.out.bel (fun k hk => by have := HBC.out; rcases hk with rfl | rfl <;> omega)))
      clear hbr ho KA
      go_wp2
      go_roundw
      case measure => simp [intOf]; omega
      case rel => exact ⟨x + 1, rfl, by omega, by omega, Lib.hid (by rw [show (x + 1).toNat = x.toNat + 1 by omega]; exact HA3.out)⟩
    · have q3 : decide ((p.size : Int) ≤ 64) = false := decide_eq_false (by omega)
      go_wp2
      go_roundw
      case measure => simp [intOf]; omega
      case rel => exact ⟨x + 1, rfl, by omega, by omega, Lib.hid (by rw [show (x + 1).toNat = x.toNat + 1 by omega]; exact HA.out.skip hx (by rw [HY.out]; show 64 < p.size; omega))⟩
  · have q2 : decide (x < (N : Int)) = false := decide_eq_false c2
    have hxN : x.toNat = adds.length := by rw [HN.out]; omega
    obtain ⟨P, came, hbr, hcame, hcov⟩ := HA.out.st
    rw [hxN] at hcame hcov
    have HBR := Lib.hid hbr
    have hcb : came < 4611686018427387904 := by have := HN.out; omega
    have HCOV : Hid (∀ j (hj : j < adds.length), rightB adds[j] = true → (∃ n, (adds[j], n) ∈ P) ∨ 64 ≤ P.length) := Lib.hid (fun j hj => hcov j hj hj)
    have HB3 := Lib.hid HA.out.bel
    have KA := Lib.hid (all_calls hbr hcb)
    clear hbr hcame hcov hxN HA
    go_wp2_with fail
    refine KA.out.mono ?_
    rintro e w4 ⟨vB, rfl, hown, hB⟩
    have hBR4 := HBR.out.below hB
    have HB4 := Lib.hid (below_step HB3.out hB)
    obtain ⟨A1, d1, rfl, hd1, hC1⟩ := row_CW (base := wr.heap.size) (v := vB) (xs := P.map Prod.fst) (by unfold Row; rw [List.length_map]; exact hown)
    have HBLT := Lib.hid (show b < wr.heap.size by obtain ⟨D, h1, _⟩ := HBR.out.map; exact h1.lt)
    obtain ⟨L, hL⟩ : ∃ l, P.map Prod.fst = l := ⟨_, rfl⟩
    have hown4 : w4.ownsRow wr.heap.size 30 3 (.slice A1 L.length d1) L.length (L.flatMap encW) := by
      rw [← hL]
      have h1 := hown
      rw [List.length_map] at h1 ⊢
      exact h1
    rw [hL] at hd1
    rw [hL]
    have HLP := Lib.hid hL
    have HNDL : Hid (L.Nodup ∧ L.length = P.length ∧ L.length ≤ 64) := Lib.hid (by
      obtain ⟨D, _, h2⟩ := HBR.out.map
      rw [← hL]
      refine ⟨?_, by simp, by have := HBR.out.few; simpa using this⟩
      unfold List.Nodup
      rw [List.pairwise_map]
      exact h2.nodup)
    have HCVL : Hid (∀ j (hj : j < adds.length), rightB adds[j] = true → L.length < 64 → adds[j] ∈ L) := Lib.hid (fun j hj hr hl => by
      rcases HCOV.out j hj hr with ⟨n, hn⟩ | h
      · rw [← hL]; exact List.mem_map.2 ⟨_, hn, rfl⟩
      · have := HNDL.out.2.1; omega)
    obtain ⟨q, hq⟩ : ∃ q : S30 → Bool, ∀ x, q x = (clr || x.f0 == client) := ⟨_, fun _ => rfl⟩
    have HQ := Lib.hid hq
    have KG : Hid (if clr = true then Calls Tryd.prog 18 #[.pointer (some ⟨c, 0, none⟩)] w4 fun e w' => ∃ v, e = .returned v ∧ w'.ownsRow w4.heap.size 30 3 v (L.filter q).length ((L.filter q).flatMap encW) ∧ Brd c b came (P.filter fun p => !q p.1) w' ∧ Only (fun k => k = b) w4 w'
        else Calls Tryd.prog 19 #[.pointer (some ⟨c, 0, none⟩), .int .i64 client] w4 fun e w' => ∃ v, e = .returned v ∧ w'.ownsRow w4.heap.size 30 3 v (L.filter q).length ((L.filter q).flatMap encW) ∧ Brd c b came (P.filter fun p => !q p.1) w' ∧ Only (fun k => k = b) w4 w') := Lib.hid (by
      rw [← hL]
      cases clr with
      | true =>
        obtain rfl : q = fun _ => true := funext fun x => by rw [hq]; rfl
        rw [if_pos rfl]
        exact clear_calls hBR4 hcb
      | false =>
        obtain rfl : q = fun x => x.f0 == client := funext fun x => by rw [hq]; rfl
        rw [if_neg (by simp)]
        exact drop_calls client hBR4 hcb)
    have HR4 := Lib.hid (fun (W : World) (ho : Only (fun k => k = b) w4 W) => own_only (W' := W) hown4 ho)
    clear hBR4 hown hown4 hB KA hC1 hq HBR hL
    have hqT : clr = true → ∀ y, q y = true := fun e y => by rw [HQ.out, e]; rfl
    have hqF : clr = false → ∀ y, q y = (y.f0 == client) := fun e y => by rw [HQ.out, e]; rfl
    have HQT := Lib.hid (And.intro hqT hqF)
    clear hqT hqF HQ
    obtain ⟨n1, hn1⟩ : ∃ n, L.length = n := ⟨_, rfl⟩
    have HN1 := Lib.hid hn1
    rw [hn1] at hd1 ⊢
    clear hn1
    cases clr with
    | true =>
      have KG1 := Lib.hid KG.out
      rw [if_pos rfl] at KG1
      clear KG
      go_wp2_with fail
      refine KG1.out.mono ?_
      rintro e w5 ⟨vG, rfl, hG, hbr5, ho5⟩
      have HB5 := Lib.hid (ho5.from HB4.out (fun k hk => by have := HBC.out; omega))
      obtain ⟨A2, d2, rfl, hd2, hC2⟩ := row_CW (base := w4.heap.size) (v := vG) (xs := L.filter q) hG
      have hC1 : Kd.C k30 w5 A1 L.length L := by
        obtain ⟨A, c', e, h, hC⟩ := row_CW (base := wr.heap.size) (v := .slice A1 L.length d1) (xs := L) (HR4.out w5 ho5 (fun k hk => by have := HBLT.out; omega))
        cases e
        exact hC
      have KA := Lib.hid (all_calls hbr5 hcb)
      obtain ⟨G, hGL⟩ : ∃ l, L.filter q = l := ⟨_, rfl⟩
      rw [hGL] at hd2 hC2
      have H5 := Lib.hid (And.intro hC1 hC2)
      rw [hGL]
      have HGL := Lib.hid hGL
      obtain ⟨n2, hn2⟩ : ∃ n, G.length = n := ⟨_, rfl⟩
      rw [hn2] at hd2 ⊢
      have HN2 := Lib.hid hn2
      clear hG hbr5 ho5 hC1 hC2 hGL hn2 KG1
      go_wp2_with fail
      refine KA.out.mono ?_
      rintro e w6 ⟨vA, rfl, hown6, hB6⟩
      have HB6 := Lib.hid (below_step HB5.out hB6)
      obtain ⟨A3, d3, rfl, hd3, hC3⟩ := row_CW (base := w5.heap.size) (v := vA) (xs := (P.filter fun p => !q p.1).map Prod.fst) (by unfold Row; rw [List.length_map]; exact hown6)
      obtain ⟨R, hRL⟩ : ∃ l, (P.filter fun p => !q p.1).map Prod.fst = l := ⟨_, rfl⟩
      rw [hRL] at hd3 hC3 ⊢
      have HRL : Hid (L.filter (fun x => !q x) = R) := Lib.hid (by rw [← hRL, ← HLP.out, List.filter_map]; rfl)
      obtain ⟨n3, hn3⟩ : ∃ n, R.length = n := ⟨_, rfl⟩
      have H6 := Lib.hid (And.intro (Kd.C_below H5.out.1 hB6) (And.intro (Kd.C_below H5.out.2 hB6) hC3))
      rw [hn3] at hd3 ⊢
      have HN3 := Lib.hid hn3
      clear hown6 hB6 hRL hC3 hn3 KA H5
      have b1 : n1 ≤ 64 := by rw [← HN1.out]; exact HNDL.out.2.2
      have b2 : n2 ≤ 64 := by
        have h1 := List.length_filter_le q L
        rw [HGL.out, HN2.out, HN1.out] at h1
        omega
      have b3 : n3 ≤ 64 := by
        have h1 := List.length_filter_le (fun x => !q x) L
        rw [HRL.out, HN3.out, HN1.out] at h1
        omega
      go_wp2_with fail
      go_loopw [13, 14, 15] (fun vn vm vi wz => ∃ (x : Int) (n m : Nat), vi = .int .i64 x ∧ 0 ≤ x ∧ x ≤ (n1 : Int) ∧ vn = .int .i64 n ∧ vm = .int .i64 m ∧ Hid (n = ((L.take x.toNat).filter q).length ∧ m = ((L.take x.toNat).filter fun y => !q y).length) ∧ Hid (Below w6.heap.size w6 wz)) (fun _ _ vi _ => ((n1 : Int) - intOf vi).toNat)
      case atStart => exact ⟨0, 0, 0, rfl, by omega, by omega, rfl, rfl, Lib.hid ⟨rfl, rfl⟩, Lib.hid (Below.refl _ _)⟩
      case round =>
      obtain ⟨x, n, m, rfl, x0, xn, rfl, rfl, HNM, HBz⟩ := hrel
      by_cases c2 : x < (n1 : Int)
      · have q2 : decide (x < (n1 : Int)) = true := decide_eq_true c2
        have hx : x.toNat < L.length := by rw [HN1.out]; omega
        obtain ⟨ad1, eA1, o0, o1, o2⟩ := Pr.at_T30 (Kd.C_below H6.out.1 HBz.out) x x0 (by rw [HN1.out]; exact c2)
        have hrd : rd_T30 L x = L[x.toNat] := by simp [rd_T30, List.getD, List.getElem?_eq_getElem hx]
        rw [hrd] at o0 o1 o2
        obtain ⟨y, hy⟩ : ∃ y, L[x.toNat] = y := ⟨_, rfl⟩
        rw [hy] at o0 o1 o2
        have HY := Lib.hid hy
        have x0' := eq_true x0
        have c2' := eq_true c2
        subst eA1
        clear hrd hy
        by_cases hqy : q y = true
        · have hfa : G[n]? = some y := by
            have h1 := filter_at q L x.toNat hx (by rw [HY.out]; exact hqy)
            rw [HGL.out, ← HNM.out.1, HY.out] at h1
            exact h1
          have hlt : n < n2 := by rw [← HN2.out]; exact (List.getElem?_eq_some_iff.1 hfa).1
          have hget : rd_T30 G (n : Int) = y := by simp [rd_T30, List.getD, hfa]
          obtain ⟨ad2, eA2, v0, v1, v2⟩ := Pr.at_T30 (Kd.C_below H6.out.2.1 HBz.out) (n : Int) (by omega) (by rw [HN2.out]; omega)
          rw [hget] at v0 v1 v2
          have HNX : Hid (n + 1 = ((L.take (x.toNat + 1)).filter q).length ∧ m = ((L.take (x.toNat + 1)).filter fun y => !q y).length) := Lib.hid (by
            rw [filter_next q L _ hx, filter_next (fun y => !q y) L _ hx, ← HNM.out.1, ← HNM.out.2, HY.out, hqy]
            exact ⟨rfl, rfl⟩)
          have HQY := Lib.hid hqy
          obtain ⟨a, k, p⟩ := y
          simp only [Int.toNat_natCast] at o0 o1 o2 v0 v1 v2
          have ec : True := trivial
          have e0 : (a == a) = true := by simp
          have e1 : (k == k) = true := by simp
          have e2 : (p.toList == p.toList) = true := by simp
          have q3 : decide ((n2 : Int) ≤ (n : Int)) = false := decide_eq_false (by omega)
          have q4 : ((n2 : Int) ≤ (n : Int)) = False := eq_false (by omega)
          have g0 := cell_regrown o0
          have g1 := cell_regrown o1
          have g2 := cell_regrown o2
          have r0 := cell_regrown v0
          have r1 := cell_regrown v1
          have r2 := cell_regrown v2
          have hlt2 : ((n : Int) < (n2 : Int)) = True := eq_true (by omega)
          have hn0 : ((0 : Int) ≤ (n : Int)) = True := eq_true (by omega)
          subst eA2
          clear hfa hget hqy v0 v1 v2
          go_wp2_with fail
          refine wp_region_quiet_below (by kernel_rfl) (by kernel_rfl) ?_
          repeat (go_big_quiet_step (fail))
          refine wpQuiet_nil ?_
          intro _ hw'
          obtain ⟨⟨dq, osq⟩, hw''⟩ := hw'
          subst hw''
          have HBn := Lib.hid (below_step HBz.out (below_regrown _ dq osq))
          clear g0 g1 g2 r0 r1 r2 o0 o1 o2
          go_wp2
          go_roundw
          case measure => simp [intOf]; omega
          case rel => exact ⟨x + 1, n + 1, m, rfl, by omega, by omega, rfl, rfl, Lib.hid (by rw [show (x + 1).toNat = x.toNat + 1 by omega]; exact HNX.out), HBn⟩
        · have hqn : q y = false := Bool.eq_false_iff.2 hqy
          exact absurd (HQT.out.1 (by trivial) y) hqy
      · have q2 : decide (x < (n1 : Int)) = false := decide_eq_false c2
        have hxn : x.toNat = L.length := by rw [HN1.out]; omega
        have hE1 : n = n2 := by rw [HNM.out.1, hxn, List.take_length, HGL.out, HN2.out]
        have hE2 : m = n3 := by rw [HNM.out.2, hxn, List.take_length, HRL.out, HN3.out]
        subst hE1
        subst hE2
        clear hxn HNM
        go_wp2_with fail
        go_loopw [16] (fun vi wy => ∃ z : Int, vi = .int .i64 z ∧ 0 ≤ z ∧ z ≤ (N : Int) ∧ Hid (Below w6.heap.size w6 wy)) (fun vi _ => ((N : Int) - intOf vi).toNat)
        case atStart => exact ⟨0, rfl, by omega, by omega, HBz⟩
        case round =>
        clear HBz
        obtain ⟨z, rfl, z0, zn, HBy⟩ := hrel
        by_cases c4 : z < (N : Int)
        · have q5 : decide (z < (N : Int)) = true := decide_eq_true c4
          have hz : z.toNat < adds.length := by rw [HN.out]; omega
          have hBy := below_step HB6.out HBy.out
          obtain ⟨ad3, eA3, o0, o1, o2⟩ := Pr.at_T30 (Kd.C_below HR0.out hBy) z z0 (by rw [HN.out]; exact c4)
          have hrd : rd_T30 adds z = adds[z.toNat] := by simp [rd_T30, List.getD, List.getElem?_eq_getElem hz]
          rw [hrd] at o0 o1 o2
          obtain ⟨y, hy⟩ : ∃ y, adds[z.toNat] = y := ⟨_, rfl⟩
          rw [hy] at o0 o1 o2
          have HY := Lib.hid hy
          have hsy : y.f2.size ≤ 2147483648 := by rw [← hy]; exact HSM.out _ (List.getElem_mem _)
          have KI := Lib.hid (fun W => is_calls y W hsy)
          obtain ⟨rb, hrb⟩ : ∃ v, rightB y = v := ⟨_, rfl⟩
          rw [hrb] at KI
          have HRB := Lib.hid hrb
          obtain ⟨a, k, p⟩ := y
          simp only at o0 o1 o2
          have z0' := eq_true z0
          have c4' := eq_true c4
          subst eA3
          clear hrd hy hsy hrb hBy
          go_wp2_with fail
          refine (KI.out _).mono ?_
          rintro e w7 ⟨rfl, hB⟩
          have HB7 := Lib.hid (below_step HBy.out hB)
          cases rb with
          | false =>
            clear hB KI o0 o1 o2
            go_wp2
            go_roundw
            case measure => simp [intOf]; omega
            case rel => exact ⟨z + 1, rfl, by omega, by omega, HB7⟩
          | true =>
          have p0 := pw_cell_below hB o0
          have p1 := pw_cell_below hB o1
          have p2 := pw_cell_below hB o2
          clear hB KI o0 o1 o2
          by_cases c6 : n1 < 64
          · have q6 : decide ((n1 : Int) < 64) = true := decide_eq_true (by omega)
            have hmem : (⟨a, k, p⟩ : S30) ∈ L := by
              rw [← HY.out]
              exact HCVL.out z.toNat hz (by rw [HY.out]; exact HRB.out) (by rw [HN1.out]; exact c6)
            have KH := has_f L ⟨a, k, p⟩ (by have := HNDL.out.2.2; omega)
            rw [countP_one HNDL.out.1 hmem] at KH
            have KH2 := Pr.lagoonlaw18_has.calls _ _ d1 L a k p _ w7 (Kd.C_below H6.out.1 HB7.out) (by rw [HN1.out]; exact hd1) KH
            rw [HN1.out] at KH2
            have KH2 := Lib.hid KH2
            clear hmem KH
            go_wp2_with fail
            refine KH2.out.mono ?_
            rintro e w8 ⟨rfl, hB⟩
            have HB8 := Lib.hid (below_step HB7.out (show Below w7.heap.size w7 w8 by first | exact hB | exact hB.below))
            clear hB KH2 p0 p1 p2
            go_wp2
            go_roundw
            case measure => simp [intOf]; omega
            case rel => exact ⟨z + 1, rfl, by omega, by omega, HB8⟩
          · have q6 : decide ((n1 : Int) < 64) = false := decide_eq_false (by omega)
            clear p0 p1 p2
            go_wp2
            go_roundw
            case measure => simp [intOf]; omega
            case rel => exact ⟨z + 1, rfl, by omega, by omega, HB7⟩
        · have q5 : decide (z < (N : Int)) = false := decide_eq_false c4
          have e3 : ((n : Int) == (n : Int)) = true := by simp
          have e4 : ((m : Int) == (m : Int)) = true := by simp
          have HBF := Lib.hid (below_step HB6.out HBy.out)
          go_wp2
          go_ret
          exact ⟨by simp, HBF.out⟩
    | false =>
      have KG1 := Lib.hid KG.out
      rw [if_neg (by simp)] at KG1
      clear KG
      go_wp2_with fail
      refine KG1.out.mono ?_
      rintro e w5 ⟨vG, rfl, hG, hbr5, ho5⟩
      have HB5 := Lib.hid (ho5.from HB4.out (fun k hk => by have := HBC.out; omega))
      obtain ⟨A2, d2, rfl, hd2, hC2⟩ := row_CW (base := w4.heap.size) (v := vG) (xs := L.filter q) hG
      have hC1 : Kd.C k30 w5 A1 L.length L := by
        obtain ⟨A, c', e, h, hC⟩ := row_CW (base := wr.heap.size) (v := .slice A1 L.length d1) (xs := L) (HR4.out w5 ho5 (fun k hk => by have := HBLT.out; omega))
        cases e
        exact hC
      have KA := Lib.hid (all_calls hbr5 hcb)
      obtain ⟨G, hGL⟩ : ∃ l, L.filter q = l := ⟨_, rfl⟩
      rw [hGL] at hd2 hC2
      have H5 := Lib.hid (And.intro hC1 hC2)
      rw [hGL]
      have HGL := Lib.hid hGL
      obtain ⟨n2, hn2⟩ : ∃ n, G.length = n := ⟨_, rfl⟩
      rw [hn2] at hd2 ⊢
      have HN2 := Lib.hid hn2
      clear hG hbr5 ho5 hC1 hC2 hGL hn2 KG1
      go_wp2_with fail
      refine KA.out.mono ?_
      rintro e w6 ⟨vA, rfl, hown6, hB6⟩
      have HB6 := Lib.hid (below_step HB5.out hB6)
      obtain ⟨A3, d3, rfl, hd3, hC3⟩ := row_CW (base := w5.heap.size) (v := vA) (xs := (P.filter fun p => !q p.1).map Prod.fst) (by unfold Row; rw [List.length_map]; exact hown6)
      obtain ⟨R, hRL⟩ : ∃ l, (P.filter fun p => !q p.1).map Prod.fst = l := ⟨_, rfl⟩
      rw [hRL] at hd3 hC3 ⊢
      have HRL : Hid (L.filter (fun x => !q x) = R) := Lib.hid (by rw [← hRL, ← HLP.out, List.filter_map]; rfl)
      obtain ⟨n3, hn3⟩ : ∃ n, R.length = n := ⟨_, rfl⟩
      have H6 := Lib.hid (And.intro (Kd.C_below H5.out.1 hB6) (And.intro (Kd.C_below H5.out.2 hB6) hC3))
      rw [hn3] at hd3 ⊢
      have HN3 := Lib.hid hn3
      clear hown6 hB6 hRL hC3 hn3 KA H5
      have b1 : n1 ≤ 64 := by rw [← HN1.out]; exact HNDL.out.2.2
      have b2 : n2 ≤ 64 := by
        have h1 := List.length_filter_le q L
        rw [HGL.out, HN2.out, HN1.out] at h1
        omega
      have b3 : n3 ≤ 64 := by
        have h1 := List.length_filter_le (fun x => !q x) L
        rw [HRL.out, HN3.out, HN1.out] at h1
        omega
      go_wp2_with fail
      go_loopw [13, 14, 15] (fun vn vm vi wz => ∃ (x : Int) (n m : Nat), vi = .int .i64 x ∧ 0 ≤ x ∧ x ≤ (n1 : Int) ∧ vn = .int .i64 n ∧ vm = .int .i64 m ∧ Hid (n = ((L.take x.toNat).filter q).length ∧ m = ((L.take x.toNat).filter fun y => !q y).length) ∧ Hid (Below w6.heap.size w6 wz)) (fun _ _ vi _ => ((n1 : Int) - intOf vi).toNat)
      case atStart => exact ⟨0, 0, 0, rfl, by omega, by omega, rfl, rfl, Lib.hid ⟨rfl, rfl⟩, Lib.hid (Below.refl _ _)⟩
      case round =>
      obtain ⟨x, n, m, rfl, x0, xn, rfl, rfl, HNM, HBz⟩ := hrel
      by_cases c2 : x < (n1 : Int)
      · have q2 : decide (x < (n1 : Int)) = true := decide_eq_true c2
        have hx : x.toNat < L.length := by rw [HN1.out]; omega
        obtain ⟨ad1, eA1, o0, o1, o2⟩ := Pr.at_T30 (Kd.C_below H6.out.1 HBz.out) x x0 (by rw [HN1.out]; exact c2)
        have hrd : rd_T30 L x = L[x.toNat] := by simp [rd_T30, List.getD, List.getElem?_eq_getElem hx]
        rw [hrd] at o0 o1 o2
        obtain ⟨y, hy⟩ : ∃ y, L[x.toNat] = y := ⟨_, rfl⟩
        rw [hy] at o0 o1 o2
        have HY := Lib.hid hy
        have x0' := eq_true x0
        have c2' := eq_true c2
        subst eA1
        clear hrd hy
        by_cases hqy : q y = true
        · have hfa : G[n]? = some y := by
            have h1 := filter_at q L x.toNat hx (by rw [HY.out]; exact hqy)
            rw [HGL.out, ← HNM.out.1, HY.out] at h1
            exact h1
          have hlt : n < n2 := by rw [← HN2.out]; exact (List.getElem?_eq_some_iff.1 hfa).1
          have hget : rd_T30 G (n : Int) = y := by simp [rd_T30, List.getD, hfa]
          obtain ⟨ad2, eA2, v0, v1, v2⟩ := Pr.at_T30 (Kd.C_below H6.out.2.1 HBz.out) (n : Int) (by omega) (by rw [HN2.out]; omega)
          rw [hget] at v0 v1 v2
          have HNX : Hid (n + 1 = ((L.take (x.toNat + 1)).filter q).length ∧ m = ((L.take (x.toNat + 1)).filter fun y => !q y).length) := Lib.hid (by
            rw [filter_next q L _ hx, filter_next (fun y => !q y) L _ hx, ← HNM.out.1, ← HNM.out.2, HY.out, hqy]
            exact ⟨rfl, rfl⟩)
          have HQY := Lib.hid hqy
          obtain ⟨a, k, p⟩ := y
          simp only [Int.toNat_natCast] at o0 o1 o2 v0 v1 v2
          have ec : (a == client) = true := by have h1 := HQT.out.2 (by trivial) ⟨a, k, p⟩; rw [HQY.out] at h1; exact h1.symm
          have e0 : (a == a) = true := by simp
          have e1 : (k == k) = true := by simp
          have e2 : (p.toList == p.toList) = true := by simp
          have q3 : decide ((n2 : Int) ≤ (n : Int)) = false := decide_eq_false (by omega)
          have q4 : ((n2 : Int) ≤ (n : Int)) = False := eq_false (by omega)
          have g0 := cell_regrown o0
          have g1 := cell_regrown o1
          have g2 := cell_regrown o2
          have r0 := cell_regrown v0
          have r1 := cell_regrown v1
          have r2 := cell_regrown v2
          have hlt2 : ((n : Int) < (n2 : Int)) = True := eq_true (by omega)
          have hn0 : ((0 : Int) ≤ (n : Int)) = True := eq_true (by omega)
          subst eA2
          clear hfa hget hqy v0 v1 v2
          go_wp2_with fail
          refine wp_region_quiet_below (by kernel_rfl) (by kernel_rfl) ?_
          repeat (go_big_quiet_step (fail))
          refine wpQuiet_nil ?_
          intro _ hw'
          obtain ⟨⟨dq, osq⟩, hw''⟩ := hw'
          subst hw''
          have HBn := Lib.hid (below_step HBz.out (below_regrown _ dq osq))
          clear g0 g1 g2 r0 r1 r2 o0 o1 o2
          go_wp2
          go_roundw
          case measure => simp [intOf]; omega
          case rel => exact ⟨x + 1, n + 1, m, rfl, by omega, by omega, rfl, rfl, Lib.hid (by rw [show (x + 1).toNat = x.toNat + 1 by omega]; exact HNX.out), HBn⟩
        · have hqn : q y = false := Bool.eq_false_iff.2 hqy
          have hfa : R[m]? = some y := by
            have h1 := filter_at (fun y => !q y) L x.toNat hx (by rw [HY.out, hqn]; rfl)
            rw [HRL.out, ← HNM.out.2, HY.out] at h1
            exact h1
          have hlt : m < n3 := by rw [← HN3.out]; exact (List.getElem?_eq_some_iff.1 hfa).1
          have hget : rd_T30 R (m : Int) = y := by simp [rd_T30, List.getD, hfa]
          obtain ⟨ad2, eA2, v0, v1, v2⟩ := Pr.at_T30 (Kd.C_below H6.out.2.2 HBz.out) (m : Int) (by omega) (by rw [HN3.out]; omega)
          rw [hget] at v0 v1 v2
          have HNX : Hid (n = ((L.take (x.toNat + 1)).filter q).length ∧ m + 1 = ((L.take (x.toNat + 1)).filter fun y => !q y).length) := Lib.hid (by
            rw [filter_next q L _ hx, filter_next (fun y => !q y) L _ hx, ← HNM.out.1, ← HNM.out.2, HY.out, hqn]
            exact ⟨rfl, rfl⟩)
          have HQY := Lib.hid hqn
          obtain ⟨a, k, p⟩ := y
          simp only [Int.toNat_natCast] at o0 o1 o2 v0 v1 v2
          have ec : (a == client) = false := by have h1 := HQT.out.2 (by trivial) ⟨a, k, p⟩; rw [HQY.out] at h1; exact h1.symm
          have e0 : (a == a) = true := by simp
          have e1 : (k == k) = true := by simp
          have e2 : (p.toList == p.toList) = true := by simp
          have q3 : decide ((n3 : Int) ≤ (m : Int)) = false := decide_eq_false (by omega)
          have q4 : ((n3 : Int) ≤ (m : Int)) = False := eq_false (by omega)
          have g0 := cell_regrown o0
          have g1 := cell_regrown o1
          have g2 := cell_regrown o2
          have r0 := cell_regrown v0
          have r1 := cell_regrown v1
          have r2 := cell_regrown v2
          have hlt2 : ((m : Int) < (n3 : Int)) = True := eq_true (by omega)
          have hn0 : ((0 : Int) ≤ (m : Int)) = True := eq_true (by omega)
          subst eA2
          clear hfa hget hqy hqn v0 v1 v2
          go_wp2_with fail
          refine wp_region_quiet_below (by kernel_rfl) (by kernel_rfl) ?_
          repeat (go_big_quiet_step (fail))
          refine wpQuiet_nil ?_
          intro _ hw'
          obtain ⟨⟨dq, osq⟩, hw''⟩ := hw'
          subst hw''
          have HBn := Lib.hid (below_step HBz.out (below_regrown _ dq osq))
          clear g0 g1 g2 r0 r1 r2 o0 o1 o2
          go_wp2
          go_roundw
          case measure => simp [intOf]; omega
          case rel => exact ⟨x + 1, n, m + 1, rfl, by omega, by omega, rfl, rfl, Lib.hid (by rw [show (x + 1).toNat = x.toNat + 1 by omega]; exact HNX.out), HBn⟩
      · have q2 : decide (x < (n1 : Int)) = false := decide_eq_false c2
        have hxn : x.toNat = L.length := by rw [HN1.out]; omega
        have hE1 : n = n2 := by rw [HNM.out.1, hxn, List.take_length, HGL.out, HN2.out]
        have hE2 : m = n3 := by rw [HNM.out.2, hxn, List.take_length, HRL.out, HN3.out]
        subst hE1
        subst hE2
        clear hxn HNM
        go_wp2_with fail
        go_loopw [16] (fun vi wy => ∃ z : Int, vi = .int .i64 z ∧ 0 ≤ z ∧ z ≤ (N : Int) ∧ Hid (Below w6.heap.size w6 wy)) (fun vi _ => ((N : Int) - intOf vi).toNat)
        case atStart => exact ⟨0, rfl, by omega, by omega, HBz⟩
        case round =>
        clear HBz
        obtain ⟨z, rfl, z0, zn, HBy⟩ := hrel
        by_cases c4 : z < (N : Int)
        · have q5 : decide (z < (N : Int)) = true := decide_eq_true c4
          have hz : z.toNat < adds.length := by rw [HN.out]; omega
          have hBy := below_step HB6.out HBy.out
          obtain ⟨ad3, eA3, o0, o1, o2⟩ := Pr.at_T30 (Kd.C_below HR0.out hBy) z z0 (by rw [HN.out]; exact c4)
          have hrd : rd_T30 adds z = adds[z.toNat] := by simp [rd_T30, List.getD, List.getElem?_eq_getElem hz]
          rw [hrd] at o0 o1 o2
          obtain ⟨y, hy⟩ : ∃ y, adds[z.toNat] = y := ⟨_, rfl⟩
          rw [hy] at o0 o1 o2
          have HY := Lib.hid hy
          have hsy : y.f2.size ≤ 2147483648 := by rw [← hy]; exact HSM.out _ (List.getElem_mem _)
          have KI := Lib.hid (fun W => is_calls y W hsy)
          obtain ⟨rb, hrb⟩ : ∃ v, rightB y = v := ⟨_, rfl⟩
          rw [hrb] at KI
          have HRB := Lib.hid hrb
          obtain ⟨a, k, p⟩ := y
          simp only at o0 o1 o2
          have z0' := eq_true z0
          have c4' := eq_true c4
          subst eA3
          clear hrd hy hsy hrb hBy
          go_wp2_with fail
          refine (KI.out _).mono ?_
          rintro e w7 ⟨rfl, hB⟩
          have HB7 := Lib.hid (below_step HBy.out hB)
          cases rb with
          | false =>
            clear hB KI o0 o1 o2
            go_wp2
            go_roundw
            case measure => simp [intOf]; omega
            case rel => exact ⟨z + 1, rfl, by omega, by omega, HB7⟩
          | true =>
          have p0 := pw_cell_below hB o0
          have p1 := pw_cell_below hB o1
          have p2 := pw_cell_below hB o2
          clear hB KI o0 o1 o2
          by_cases c6 : n1 < 64
          · have q6 : decide ((n1 : Int) < 64) = true := decide_eq_true (by omega)
            have hmem : (⟨a, k, p⟩ : S30) ∈ L := by
              rw [← HY.out]
              exact HCVL.out z.toNat hz (by rw [HY.out]; exact HRB.out) (by rw [HN1.out]; exact c6)
            have KH := has_f L ⟨a, k, p⟩ (by have := HNDL.out.2.2; omega)
            rw [countP_one HNDL.out.1 hmem] at KH
            have KH2 := Pr.lagoonlaw18_has.calls _ _ d1 L a k p _ w7 (Kd.C_below H6.out.1 HB7.out) (by rw [HN1.out]; exact hd1) KH
            rw [HN1.out] at KH2
            have KH2 := Lib.hid KH2
            clear hmem KH
            go_wp2_with fail
            refine KH2.out.mono ?_
            rintro e w8 ⟨rfl, hB⟩
            have HB8 := Lib.hid (below_step HB7.out (show Below w7.heap.size w7 w8 by first | exact hB | exact hB.below))
            clear hB KH2 p0 p1 p2
            go_wp2
            go_roundw
            case measure => simp [intOf]; omega
            case rel => exact ⟨z + 1, rfl, by omega, by omega, HB8⟩
          · have q6 : decide ((n1 : Int) < 64) = false := decide_eq_false (by omega)
            clear p0 p1 p2
            go_wp2
            go_roundw
            case measure => simp [intOf]; omega
            case rel => exact ⟨z + 1, rfl, by omega, by omega, HB7⟩
        · have q5 : decide (z < (N : Int)) = false := decide_eq_false c4
          have e3 : ((n : Int) == (n : Int)) = true := by simp
          have e4 : ((m : Int) == (m : Int)) = true := by simp
          have HBF := Lib.hid (below_step HB6.out HBy.out)
          go_wp2
          go_ret
          exact ⟨by simp, HBF.out⟩
end Go.Proofs.YtkhnjckkjdldbaaDoor.Q
