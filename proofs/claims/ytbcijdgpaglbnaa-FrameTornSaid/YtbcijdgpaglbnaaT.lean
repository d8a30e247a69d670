import Derived.Test.YtbcijdgpaglbnaaS
namespace Go.Proofs.Ytbcijdgpaglbnaa.Q
open Go.RowKit Go.Shelf Go.Proofs.YtbcijdgpaglbnaaW.PrintWords Go.Deep Go.Sort
set_option linter.unusedVariables false
set_option linter.unusedSimpArgs false
attribute [local go_sem] Oper.semAt_some

set_option maxRecDepth 100000 in
set_option maxHeartbeats 8000000 in
theorem torn_calls (A : Option Addr) (c : Nat) (Ls : List (List Nat)) (f : Nat → Option Addr × Nat) (cut : Int) (w : World) (hr : RdBs w A Ls f) (hb : ∀ i, Bytes (Ls.getD i [])) (hc1 : -9223372036854775808 ≤ cut) (hc2 : cut ≤ 9223372036854775807) :
    Calls Try.prog 3 #[.slice A Ls.length c, .int .i64 cut] w fun e w' => e = .returned (.bool true) ∧ Below w.heap.size w w' := by
  have HR := Lib.hid hr
  have HB := Lib.hid hb
  clear hr hb
  go_enter Try.func3, Try.ntmps3
  go_wp2_with fail
  refine (long_calls A c Ls f w HR.out).mono ?_
  rintro e w0 ⟨rfl, q, rfl, hq⟩
  have HQ := Lib.hid hq
  clear hq
  cases q with
  | true =>
    go_wp2
    go_ret
    exact ⟨rfl, Below.refl _ _⟩
  | false =>
  go_wp2_with fail
  refine (lives_calls w).mono ?_
  rintro e w1 ⟨rfl, hB1⟩
  obtain ⟨Ms, X, hX, ok, hMb, hXl, hMl, KJ⟩ := joined_ji A c Ls f w1 (HR.out.below hB1) HB.out (HQ.out trivial)
  have HK := Lib.hid KJ
  have HX := Lib.hid (And.intro hX (And.intro ok hMb))
  obtain ⟨Xn, eXn⟩ : ∃ x, X.length = x := ⟨_, rfl⟩
  obtain ⟨N, eN⟩ : ∃ x, Ms.length = x := ⟨_, rfl⟩
  have EX := Lib.hid eXn
  have EN := Lib.hid eN
  have HB1 := Lib.hid hB1
  rw [eXn] at hXl
  rw [eN] at hMl
  clear KJ hX ok hMb hB1 HR HB HQ eXn eN
  go_wp2_with fail
  refine HK.out.mono ?_
  rintro e w2 ⟨g, aa, ca, al, cl, ap, cp, rfl, hJ⟩
  have HJ := Lib.hid hJ
  rw [EX.out, EN.out]
  have hca := (own_rd hJ.a (by rw [EX.out]; omega)).2.1
  rw [EX.out] at hca
  clear hJ HK

  by_cases hin : 0 ≤ cut ∧ cut ≤ (Xn : Int)
  · obtain ⟨m, rfl⟩ := Int.eq_ofNat_of_zero_le hin.1
    have hm : m ≤ Xn := by omega
    clear hin
    go_wp2_with fail
    go_loopw [10, 11] (fun n e wr => ∃ k : Nat, k ≤ N ∧ n = .int .i64 k ∧ e = .int .i64 (pos Ms k : Nat) ∧ pos Ms k ≤ m ∧ Hid (JI w1 wr Ms X (.slice aa X.length ca) (.slice al Ms.length cl) (.slice ap Ms.length cp) g)) (fun n _ _ => N - (intOf n).toNat)
    case atStart => exact ⟨0, by omega, rfl, by rw [pos_zero]; rfl, by rw [pos_zero]; omega, HJ⟩
    case round =>
      obtain ⟨k, hk, rfl, rfl, hpk, HT⟩ := hrel
      by_cases hlt : k < N
      · obtain ⟨bp, hbp, hp⟩ := HT.out.pcell k (by rw [EN.out]; exact hlt)
        obtain ⟨bl, hbl, hl⟩ := HT.out.lcell k (by rw [EN.out]; exact hlt)
        subst hbp hbl
        have T1 : Hid (pos Ms (k + 1) = pos Ms k + sizes Ms k + 9) := Lib.hid (pos_succ Ms k (by rw [EN.out]; exact hlt))
        obtain ⟨P, eP⟩ : ∃ x, pos Ms k = x := ⟨_, rfl⟩
        obtain ⟨S, eS⟩ : ∃ x, sizes Ms k = x := ⟨_, rfl⟩
        have EP := Lib.hid eP
        rw [eP] at hp T1 hpk ⊢
        rw [eS] at hl T1
        obtain ⟨fa, efa⟩ : ∃ x, (g k).1 = x := ⟨_, rfl⟩
        obtain ⟨fc, efc⟩ : ∃ x, (g k).2 = x := ⟨_, rfl⟩
        rw [efa, efc] at hl
        have hS : S ≤ 1048576 := by rw [← eS]; exact (HX.out.2.1 k (by rw [EN.out]; exact hlt)).2
        clear eP eS efa efc
        have q1 : decide ((k : Int) < (N : Int)) = true := by simp; omega
        by_cases hc : P + S + 9 ≤ m
        · have q2 : decide ((P : Int) + (S : Int) + 9 ≤ (m : Int)) = true := by simp; omega
          go_wp2
          go_quiet (fail)
          go_wp2
          go_quiet (fail)
          go_wp2
          exact ⟨⟨k + 1, by omega, by go_num, by rw [T1.out]; congr 1, by rw [T1.out]; omega, Lib.hid (HT.out.below (pw_below_drewN (Below.refl _ _) _))⟩, by simp [intOf]; omega⟩
        · have q2 : decide ((P : Int) + (S : Int) + 9 ≤ (m : Int)) = false := by simp; omega
          go_wp2
          go_quiet (fail)
          go_wp2_with fail
          have FIT : Hid (fits Ms m k) := Lib.hid ⟨by rw [EN.out]; exact hk, by rw [EP.out]; exact hpk, fun _ => by rw [T1.out]; omega⟩
          have HT2 := Lib.hid (HT.out.below (pw_below_drewN (Below.refl _ _) nq))
          obtain ⟨W, hW⟩ : ∃ V, wr.drewN nq = V := ⟨_, rfl⟩
          rw [hW] at HT2 ⊢
          clear hW HT q1 q2 hp hl T1
          have hfit := FIT.out
          have hL0 : (X.take m).length = m := by rw [List.length_take, EX.out]; omega
          have HB0 := torn_begins Ms HX.out.2.1 m k (by rw [← HX.out.1, EX.out]; omega) hfit
          rw [← HX.out.1] at HB0
          have HB := Lib.hid HB0
          have HO := Lib.hid (torn_one Ms HX.out.2.1 m k (by rw [← HX.out.1, EX.out]; omega) hfit)
          have rd0 := own_rd HT2.out.a (by rw [EX.out]; omega)
          have RX := Lib.hid (And.intro (rd0.1.take m) rd0.2)
          have HLb : Hid (Bytes (X.take m)) := Lib.hid (Bytes.take (by rw [HX.out.1]; exact joinL_bytes Ms HX.out.2.2) _)
          have K9 := through_calls aa ca (X.take m) W RX.out.1 HLb.out (by rw [hL0]; omega)
          rw [hL0] at K9
          have HK9 := Lib.hid K9
          have HL0 := Lib.hid hL0
          clear hfit HB0 rd0 K9 hL0
          refine HK9.out.mono ?_
          rintro e W1 ⟨hB2, v1, v2, xs, rfl, hxs, h1, h2, h3⟩
          obtain ⟨a1, c1, rfl⟩ := own_form h1
          obtain ⟨a2, c2, rfl⟩ := own_form h2
          have hxl : xs.length = k := by have := congrArg List.length hxs; rw [List.length_map, upto_length, HB.out.cnt HX.out.2.1] at this; exact this
          rw [hxl] at h1 h2 ⊢
          have HS := Lib.hid (And.intro h1 (And.intro h2 (And.intro h3 (And.intro hxs hxl))))
          have HT3 := Lib.hid (HT2.out.below hB2)
          have HRX := Lib.hid (RX.out.1.below hB2)
          have HBw := Lib.hid hB2
          clear h1 h2 h3 hxs hxl hB2 HK9 HT2
          go_wp2_with fail
          have bA := below_alloc1 W1 (.cells #[.slice a1 k c1, .slice a2 k c2] 30)
          have nA := heap_alloc_new W1 (.cells #[.slice a1 k c1, .slice a2 k c2] 30)
          obtain ⟨G, eG⟩ : ∃ G, W1.heap.size = G := ⟨_, rfl⟩
          rw [eG] at nA
          obtain ⟨W2, hW2⟩ : ∃ V, W1.alloc (.cells #[.slice a1 k c1, .slice a2 k c2] 30) = V := ⟨_, rfl⟩
          rw [hW2] at bA nA
          rw [hW2, eG]
          have KW := whole_calls aa ca (X.take m) W2 (HRX.out.below bA) (fun a ha => ⟨Nat.lt_of_lt_of_le (RX.out.2.2.1 a ha).1 (Nat.le_trans HBw.out.size bA.size), (RX.out.2.2.1 a ha).2⟩) RX.out.2.2.2.1 HLb.out (by rw [HL0.out]; omega) (by rw [HL0.out]; omega)
          rw [HB.out.cnt HX.out.2.1, HB.out.at HX.out.2.1 k (Nat.le_refl _), HL0.out, EP.out] at KW
          have HKW := Lib.hid KW
          have HT4 := Lib.hid (HT3.out.below bA)
          have HRX4 := Lib.hid (HRX.out.below bA)
          have HA := Lib.hid (And.intro bA (And.intro nA eG))
          clear KW bA nA hW2 eG HT3 HRX
          refine HKW.out.mono ?_
          rintro e W3 ⟨rfl, hB3⟩
          have glt : G < W2.heap.size := (Array.getElem?_eq_some_iff.1 HA.out.2.1).1
          have n3 : W3.heap[G]? = some (.cells #[.slice a1 k c1, .slice a2 k c2] 30 (0, 0)) := (hB3.block G glt).trans HA.out.2.1
          have y0 : W3.cell? ⟨G, 0, none⟩ = some (.slice a1 k c1) := (cell_of_row W3 G 0 _ _ _ n3).trans rfl
          have m1 : ((k : Int) != (k : Int)) = false := by simp
          have m2 : ((P : Int) != (P : Int)) = false := by simp
          have HT5 := Lib.hid (HT4.out.below hB3)
          have HRX5 := Lib.hid (HRX4.out.below hB3)
          have B13 : Below W1.heap.size W1 W3 := HA.out.1.trans (hB3.mono HA.out.1.size)
          have HS5 := Lib.hid (And.intro (own_then HS.out.1 B13) (And.intro (own_then HS.out.2.1 B13) (And.intro (fun x hx => (B13.block _ (Array.getElem?_eq_some_iff.1 (HS.out.2.2.1 x hx)).1).trans (HS.out.2.2.1 x hx)) (And.intro HS.out.2.2.2.1 HS.out.2.2.2.2))))
          have HN3 := Lib.hid n3
          have HBw5 := Lib.hid (below_then HBw.out HBw.out.size B13)
          clear n3 hB3 HKW HT4 HRX4 B13 HS HBw HA glt
          go_wp2
          go_loopw [14] (fun i wr => ∃ j : Nat, j ≤ k ∧ i = .int .i64 j ∧ Hid (Below W3.heap.size W3 wr)) (fun i _ => k - (intOf i).toNat)
          case atStart => exact ⟨0, by omega, rfl, Lib.hid (Below.refl _ _)⟩
          case round =>
            obtain ⟨j, hj, rfl, HBj⟩ := hrel
            clear y0 m1 m2
            by_cases hlt : j < k
            · have hjN : j < Ms.length := by rw [EN.out]; omega
              obtain ⟨x, hx⟩ : ∃ x, xs[j]? = some x := ⟨_, List.getElem?_eq_getElem (by rw [HS5.out.2.2.2.2]; exact hlt)⟩
              have hfr : frameOf x = (pos Ms j, sizes Ms j) := by
                have h8 := congrArg (fun l => l[j]?) HS5.out.2.2.2.1
                simp only [List.getElem?_map, hx, Option.map_some] at h8
                rw [HB.out.cnt HX.out.2.1] at h8
                have h9 : (upto (frameAt (X.take m)) k)[j]? = some (frameAt (X.take m) j) := by simp [upto, hlt]
                rw [h9] at h8
                exact (Option.some.inj h8).trans (HB.out.frame HX.out.2.1 j hlt)
              obtain ⟨xp, xm, xg⟩ := x
              have e1 : xp = pos Ms j := congrArg Prod.fst hfr
              have e2 : xm = sizes Ms j := congrArg Prod.snd hfr
              subst e1 e2
              obtain ⟨b1, hb1, k1, _⟩ := own_at HS5.out.1 j hlt (.int .i64 ((pos Ms j : Int) + (8 + (sizes Ms j : Int) + 1))) (by rw [List.getElem?_map, hx]; rfl)
              obtain ⟨b2, hb2, k2, _⟩ := own_at HS5.out.2.1 j hlt (.slice (some ⟨xg, 0, none⟩) (sizes Ms j) (sizes Ms j)) (by rw [List.getElem?_map, hx]; rfl)
              obtain ⟨b3, hb3, k3⟩ := HT5.out.pcell j hjN
              obtain ⟨b4, hb4, k4⟩ := HT5.out.lcell j hjN
              cases hb1
              cases hb2
              cases hb3
              cases hb4
              have hrx := HS5.out.2.2.1 _ (List.mem_of_getElem? hx)
              have hrx2 : W3.heap[xg]? = some (.cells (bytesV (Ms.getD j [])).toArray 5 (0, 0)) := by rw [← HB.out.is j hlt]; exact hrx
              have hS := (HX.out.2.1 j hjN).2
              have RA := own_rdb hrx2 (by omega)
              have RB := HT5.out.r j hjN
              have KE : ∀ d os, Calls Try.prog 11 #[.slice (some ⟨xg, 0, none⟩) (sizes Ms j) (sizes Ms j), .slice (g j).1 (sizes Ms j) (g j).2] (grow (redrawn wr d) os) fun e w'' => e = .returned (.bool true) ∧ ∃ p : Regrown, w'' = grow (redrawn wr p.d) p.os := fun d os => Calls.regrown_of (eq_calls _ _ _ _ (Ms.getD j []) _ ((RA.below HBj.out).below (below_regrown wr d os)) ((RB.below HBj.out).below (below_regrown wr d os)))
              have x1 := cell_regrown (pw_cell_below HBj.out k1)
              have x2 := cell_regrown (pw_cell_below HBj.out k2)
              have x3 := cell_regrown (pw_cell_below HBj.out k3)
              have x4 := cell_regrown (pw_cell_below HBj.out k4)
              have y0 := cell_regrown (pw_cell_below HBj.out ((cell_of_row W3 G 0 _ _ _ HN3.out).trans (show _ = some (Value.slice (some ⟨b1, 0, none⟩) k c1) from rfl)))
              have y1 := cell_regrown (pw_cell_below HBj.out ((cell_of_row W3 G 1 _ _ _ HN3.out).trans (show _ = some (Value.slice (some ⟨b2, 0, none⟩) k c2) from rfl)))
              have hPj : pos Ms j ≤ 2147483647 := by have := pos_le Ms j (Nat.le_of_lt hjN); rw [← HX.out.1, EX.out] at this; omega
              have hSj : sizes Ms j ≤ 1048576 := hS
              obtain ⟨Pj, ePj⟩ : ∃ x, pos Ms j = x := ⟨_, rfl⟩
              obtain ⟨Sj, eSj⟩ : ∃ x, sizes Ms j = x := ⟨_, rfl⟩
              obtain ⟨ga, ega⟩ : ∃ x, (g j).1 = x := ⟨_, rfl⟩
              obtain ⟨gc, egc⟩ : ∃ x, (g j).2 = x := ⟨_, rfl⟩
              rw [ePj] at x1 x3 hPj
              rw [eSj] at x1 x2 x4 KE hSj
              rw [ega, egc] at x4 KE
              clear hx hfr k1 k2 k3 k4 hrx hrx2 hS RA RB ePj eSj ega egc
              have q0 : ((Pj : Int) + (8 + (Sj : Int) + 1) != (Pj : Int) + (Sj : Int) + 9) = false := by rw [bne_eq_false_iff_eq]; omega
              go_wp2_with fail
              refine wp_region_quiet_below (by kernel_rfl) (by kernel_rfl) ?_
              repeat (go_big_quiet_step (exact KE _ _))
              refine wpQuiet_nil ?_
              intro _ hw'
              obtain ⟨⟨dq, osq⟩, hw''⟩ := hw'
              subst hw''
              have HBn := Lib.hid (below_then HBj.out HBj.out.size (below_regrown wr dq osq))
              clear KE x1 x2 x3 x4 y0 y1 q0
              go_wp2
              exact ⟨⟨j + 1, by omega, by go_num, HBn⟩, by simp [intOf]; omega⟩
            · obtain rfl : j = k := by omega
              have KO := one_calls aa ca (X.take m) wr (HRX5.out.below HBj.out) HLb.out (by rw [HL0.out]; omega) (by rw [HL0.out]; omega)
              rw [HL0.out] at KO
              have HKO := Lib.hid KO
              clear KO
              go_wp2_with fail
              refine HKO.out.mono ?_
              rintro e W6 ⟨hB6, hP6⟩
              have HF := Lib.hid (below_then (below_then (below_then HB1.out HB1.out.size (HT5.out.b.mono (Nat.le_refl _))) (by have := HB1.out.size; have := HT5.out.b.size; omega) HBj.out) (by have := HB1.out.size; have := HT5.out.b.size; have := HBj.out.size; omega) hB6)
              have ho := HO.out
              rw [← HX.out.1, EP.out] at ho
              clear hB6 HKO
              cases hO : oneB (X.take m) with
              | none =>
                rw [hO] at hP6 ho
                obtain rfl := hP6
                have hno : ¬ (j = 1 ∧ P = m) := by simpa using ho.symm
                have HNO := Lib.hid hno
                clear hno ho hO
                by_cases j1 : j = 1
                · have z1 : ((j : Int) == 1) = true := by simp [j1]
                  have z2 : ((P : Int) == (m : Int)) = false := by
                    have : P ≠ m := fun e => HNO.out ⟨j1, e⟩
                    simp; omega
                  have HJ1 := Lib.hid j1
                  clear j1
                  go_wp2
                  go_ret
                  exact ⟨by simp, HF.out⟩
                · have z1 : ((j : Int) == 1) = false := by simp; omega
                  go_wp2
                  go_ret
                  exact ⟨by simp, HF.out⟩
              | some L =>
                rw [hO] at hP6 ho
                obtain ⟨g9, c9, rfl, hR9⟩ := hP6
                have hyes : j = 1 ∧ P = m := by simpa using ho.symm
                have z1 : ((j : Int) == 1) = true := by simp [hyes.1]
                have z2 : ((P : Int) == (m : Int)) = true := by simp [hyes.2]
                clear hyes ho hO hR9
                go_wp2
                go_ret
                exact ⟨by simp, HF.out⟩

      · obtain rfl : k = N := by omega
        obtain ⟨P, eP⟩ : ∃ x, pos Ms k = x := ⟨_, rfl⟩
        have EP := Lib.hid eP
        rw [eP] at hpk ⊢
        clear eP
        have q1 : decide ((k : Int) < (k : Int)) = false := by simp
        go_wp2_with fail
        go_quiet (fail)
        go_wp2_with fail
        have FIT : Hid (fits Ms m k) := Lib.hid ⟨by rw [EN.out]; exact Nat.le_refl _, by rw [EP.out]; exact hpk, fun h => by rw [EN.out] at h; omega⟩
        have HT2 := Lib.hid (HT.out.below (pw_below_drewN (Below.refl _ _) nq))
        obtain ⟨W, hW⟩ : ∃ V, wr.drewN nq = V := ⟨_, rfl⟩
        rw [hW] at HT2 ⊢
        clear hW HT q1
        have hfit := FIT.out
        have hL0 : (X.take m).length = m := by rw [List.length_take, EX.out]; omega
        have HB0 := torn_begins Ms HX.out.2.1 m k (by rw [← HX.out.1, EX.out]; omega) hfit
        rw [← HX.out.1] at HB0
        have HB := Lib.hid HB0
        have HO := Lib.hid (torn_one Ms HX.out.2.1 m k (by rw [← HX.out.1, EX.out]; omega) hfit)
        have rd0 := own_rd HT2.out.a (by rw [EX.out]; omega)
        have RX := Lib.hid (And.intro (rd0.1.take m) rd0.2)
        have HLb : Hid (Bytes (X.take m)) := Lib.hid (Bytes.take (by rw [HX.out.1]; exact joinL_bytes Ms HX.out.2.2) _)
        have K9 := through_calls aa ca (X.take m) W RX.out.1 HLb.out (by rw [hL0]; omega)
        rw [hL0] at K9
        have HK9 := Lib.hid K9
        have HL0 := Lib.hid hL0
        clear hfit HB0 rd0 K9 hL0
        refine HK9.out.mono ?_
        rintro e W1 ⟨hB2, v1, v2, xs, rfl, hxs, h1, h2, h3⟩
        obtain ⟨a1, c1, rfl⟩ := own_form h1
        obtain ⟨a2, c2, rfl⟩ := own_form h2
        have hxl : xs.length = k := by have := congrArg List.length hxs; rw [List.length_map, upto_length, HB.out.cnt HX.out.2.1] at this; exact this
        rw [hxl] at h1 h2 ⊢
        have HS := Lib.hid (And.intro h1 (And.intro h2 (And.intro h3 (And.intro hxs hxl))))
        have HT3 := Lib.hid (HT2.out.below hB2)
        have HRX := Lib.hid (RX.out.1.below hB2)
        have HBw := Lib.hid hB2
        clear h1 h2 h3 hxs hxl hB2 HK9 HT2
        go_wp2_with fail
        have bA := below_alloc1 W1 (.cells #[.slice a1 k c1, .slice a2 k c2] 30)
        have nA := heap_alloc_new W1 (.cells #[.slice a1 k c1, .slice a2 k c2] 30)
        obtain ⟨G, eG⟩ : ∃ G, W1.heap.size = G := ⟨_, rfl⟩
        rw [eG] at nA
        obtain ⟨W2, hW2⟩ : ∃ V, W1.alloc (.cells #[.slice a1 k c1, .slice a2 k c2] 30) = V := ⟨_, rfl⟩
        rw [hW2] at bA nA
        rw [hW2, eG]
        have KW := whole_calls aa ca (X.take m) W2 (HRX.out.below bA) (fun a ha => ⟨Nat.lt_of_lt_of_le (RX.out.2.2.1 a ha).1 (Nat.le_trans HBw.out.size bA.size), (RX.out.2.2.1 a ha).2⟩) RX.out.2.2.2.1 HLb.out (by rw [HL0.out]; omega) (by rw [HL0.out]; omega)
        rw [HB.out.cnt HX.out.2.1, HB.out.at HX.out.2.1 k (Nat.le_refl _), HL0.out, EP.out] at KW
        have HKW := Lib.hid KW
        have HT4 := Lib.hid (HT3.out.below bA)
        have HRX4 := Lib.hid (HRX.out.below bA)
        have HA := Lib.hid (And.intro bA (And.intro nA eG))
        clear KW bA nA hW2 eG HT3 HRX
        refine HKW.out.mono ?_
        rintro e W3 ⟨rfl, hB3⟩
        have glt : G < W2.heap.size := (Array.getElem?_eq_some_iff.1 HA.out.2.1).1
        have n3 : W3.heap[G]? = some (.cells #[.slice a1 k c1, .slice a2 k c2] 30 (0, 0)) := (hB3.block G glt).trans HA.out.2.1
        have y0 : W3.cell? ⟨G, 0, none⟩ = some (.slice a1 k c1) := (cell_of_row W3 G 0 _ _ _ n3).trans rfl
        have m1 : ((k : Int) != (k : Int)) = false := by simp
        have m2 : ((P : Int) != (P : Int)) = false := by simp
        have HT5 := Lib.hid (HT4.out.below hB3)
        have HRX5 := Lib.hid (HRX4.out.below hB3)
        have B13 : Below W1.heap.size W1 W3 := HA.out.1.trans (hB3.mono HA.out.1.size)
        have HS5 := Lib.hid (And.intro (own_then HS.out.1 B13) (And.intro (own_then HS.out.2.1 B13) (And.intro (fun x hx => (B13.block _ (Array.getElem?_eq_some_iff.1 (HS.out.2.2.1 x hx)).1).trans (HS.out.2.2.1 x hx)) (And.intro HS.out.2.2.2.1 HS.out.2.2.2.2))))
        have HN3 := Lib.hid n3
        have HBw5 := Lib.hid (below_then HBw.out HBw.out.size B13)
        clear n3 hB3 HKW HT4 HRX4 B13 HS HBw HA glt
        go_wp2
        go_loopw [14] (fun i wr => ∃ j : Nat, j ≤ k ∧ i = .int .i64 j ∧ Hid (Below W3.heap.size W3 wr)) (fun i _ => k - (intOf i).toNat)
        case atStart => exact ⟨0, by omega, rfl, Lib.hid (Below.refl _ _)⟩
        case round =>
          obtain ⟨j, hj, rfl, HBj⟩ := hrel
          clear y0 m1 m2
          by_cases hlt : j < k
          · have hjN : j < Ms.length := by rw [EN.out]; omega
            obtain ⟨x, hx⟩ : ∃ x, xs[j]? = some x := ⟨_, List.getElem?_eq_getElem (by rw [HS5.out.2.2.2.2]; exact hlt)⟩
            have hfr : frameOf x = (pos Ms j, sizes Ms j) := by
              have h8 := congrArg (fun l => l[j]?) HS5.out.2.2.2.1
              simp only [List.getElem?_map, hx, Option.map_some] at h8
              rw [HB.out.cnt HX.out.2.1] at h8
              have h9 : (upto (frameAt (X.take m)) k)[j]? = some (frameAt (X.take m) j) := by simp [upto, hlt]
              rw [h9] at h8
              exact (Option.some.inj h8).trans (HB.out.frame HX.out.2.1 j hlt)
            obtain ⟨xp, xm, xg⟩ := x
            have e1 : xp = pos Ms j := congrArg Prod.fst hfr
            have e2 : xm = sizes Ms j := congrArg Prod.snd hfr
            subst e1 e2
            obtain ⟨b1, hb1, k1, _⟩ := own_at HS5.out.1 j hlt (.int .i64 ((pos Ms j : Int) + (8 + (sizes Ms j : Int) + 1))) (by rw [List.getElem?_map, hx]; rfl)
            obtain ⟨b2, hb2, k2, _⟩ := own_at HS5.out.2.1 j hlt (.slice (some ⟨xg, 0, none⟩) (sizes Ms j) (sizes Ms j)) (by rw [List.getElem?_map, hx]; rfl)
            obtain ⟨b3, hb3, k3⟩ := HT5.out.pcell j hjN
            obtain ⟨b4, hb4, k4⟩ := HT5.out.lcell j hjN
            cases hb1
            cases hb2
            cases hb3
            cases hb4
            have hrx := HS5.out.2.2.1 _ (List.mem_of_getElem? hx)
            have hrx2 : W3.heap[xg]? = some (.cells (bytesV (Ms.getD j [])).toArray 5 (0, 0)) := by rw [← HB.out.is j hlt]; exact hrx
            have hS := (HX.out.2.1 j hjN).2
            have RA := own_rdb hrx2 (by omega)
            have RB := HT5.out.r j hjN
            have KE : ∀ d os, Calls Try.prog 11 #[.slice (some ⟨xg, 0, none⟩) (sizes Ms j) (sizes Ms j), .slice (g j).1 (sizes Ms j) (g j).2] (grow (redrawn wr d) os) fun e w'' => e = .returned (.bool true) ∧ ∃ p : Regrown, w'' = grow (redrawn wr p.d) p.os := fun d os => Calls.regrown_of (eq_calls _ _ _ _ (Ms.getD j []) _ ((RA.below HBj.out).below (below_regrown wr d os)) ((RB.below HBj.out).below (below_regrown wr d os)))
            have x1 := cell_regrown (pw_cell_below HBj.out k1)
            have x2 := cell_regrown (pw_cell_below HBj.out k2)
            have x3 := cell_regrown (pw_cell_below HBj.out k3)
            have x4 := cell_regrown (pw_cell_below HBj.out k4)
            have y0 := cell_regrown (pw_cell_below HBj.out ((cell_of_row W3 G 0 _ _ _ HN3.out).trans (show _ = some (Value.slice (some ⟨b1, 0, none⟩) k c1) from rfl)))
            have y1 := cell_regrown (pw_cell_below HBj.out ((cell_of_row W3 G 1 _ _ _ HN3.out).trans (show _ = some (Value.slice (some ⟨b2, 0, none⟩) k c2) from rfl)))
            have hPj : pos Ms j ≤ 2147483647 := by have := pos_le Ms j (Nat.le_of_lt hjN); rw [← HX.out.1, EX.out] at this; omega
            have hSj : sizes Ms j ≤ 1048576 := hS
            obtain ⟨Pj, ePj⟩ : ∃ x, pos Ms j = x := ⟨_, rfl⟩
            obtain ⟨Sj, eSj⟩ : ∃ x, sizes Ms j = x := ⟨_, rfl⟩
            obtain ⟨ga, ega⟩ : ∃ x, (g j).1 = x := ⟨_, rfl⟩
            obtain ⟨gc, egc⟩ : ∃ x, (g j).2 = x := ⟨_, rfl⟩
            rw [ePj] at x1 x3 hPj
            rw [eSj] at x1 x2 x4 KE hSj
            rw [ega, egc] at x4 KE
            clear hx hfr k1 k2 k3 k4 hrx hrx2 hS RA RB ePj eSj ega egc
            have q0 : ((Pj : Int) + (8 + (Sj : Int) + 1) != (Pj : Int) + (Sj : Int) + 9) = false := by rw [bne_eq_false_iff_eq]; omega
            go_wp2_with fail
            refine wp_region_quiet_below (by kernel_rfl) (by kernel_rfl) ?_
            repeat (go_big_quiet_step (exact KE _ _))
            refine wpQuiet_nil ?_
            intro _ hw'
            obtain ⟨⟨dq, osq⟩, hw''⟩ := hw'
            subst hw''
            have HBn := Lib.hid (below_then HBj.out HBj.out.size (below_regrown wr dq osq))
            clear KE x1 x2 x3 x4 y0 y1 q0
            go_wp2
            exact ⟨⟨j + 1, by omega, by go_num, HBn⟩, by simp [intOf]; omega⟩
          · obtain rfl : j = k := by omega
            have KO := one_calls aa ca (X.take m) wr (HRX5.out.below HBj.out) HLb.out (by rw [HL0.out]; omega) (by rw [HL0.out]; omega)
            rw [HL0.out] at KO
            have HKO := Lib.hid KO
            clear KO
            go_wp2_with fail
            refine HKO.out.mono ?_
            rintro e W6 ⟨hB6, hP6⟩
            have HF := Lib.hid (below_then (below_then (below_then HB1.out HB1.out.size (HT5.out.b.mono (Nat.le_refl _))) (by have := HB1.out.size; have := HT5.out.b.size; omega) HBj.out) (by have := HB1.out.size; have := HT5.out.b.size; have := HBj.out.size; omega) hB6)
            have ho := HO.out
            rw [← HX.out.1, EP.out] at ho
            clear hB6 HKO
            cases hO : oneB (X.take m) with
            | none =>
              rw [hO] at hP6 ho
              obtain rfl := hP6
              have hno : ¬ (j = 1 ∧ P = m) := by simpa using ho.symm
              have HNO := Lib.hid hno
              clear hno ho hO
              by_cases j1 : j = 1
              · have z1 : ((j : Int) == 1) = true := by simp [j1]
                have z2 : ((P : Int) == (m : Int)) = false := by
                  have : P ≠ m := fun e => HNO.out ⟨j1, e⟩
                  simp; omega
                have HJ1 := Lib.hid j1
                clear j1
                go_wp2
                go_ret
                exact ⟨by simp, HF.out⟩
              · have z1 : ((j : Int) == 1) = false := by simp; omega
                go_wp2
                go_ret
                exact ⟨by simp, HF.out⟩
            | some L =>
              rw [hO] at hP6 ho
              obtain ⟨g9, c9, rfl, hR9⟩ := hP6
              have hyes : j = 1 ∧ P = m := by simpa using ho.symm
              have z1 : ((j : Int) == 1) = true := by simp [hyes.1]
              have z2 : ((P : Int) == (m : Int)) = true := by simp [hyes.2]
              clear hyes ho hO hR9
              go_wp2
              go_ret
              exact ⟨by simp, HF.out⟩


  · have hm : Xn ≤ Xn := Nat.le_refl _
    rcases (show cut < 0 ∨ (Xn : Int) < cut by omega) with hcut | hcut
    all_goals
      go_wp2_with fail
      go_loopw [10, 11] (fun n e wr => ∃ k : Nat, k ≤ N ∧ n = .int .i64 k ∧ e = .int .i64 (pos Ms k : Nat) ∧ pos Ms k ≤ Xn ∧ Hid (JI w1 wr Ms X (.slice aa X.length ca) (.slice al Ms.length cl) (.slice ap Ms.length cp) g)) (fun n _ _ => N - (intOf n).toNat)
      case atStart => exact ⟨0, by omega, rfl, by rw [pos_zero]; rfl, by rw [pos_zero]; omega, HJ⟩
      case round =>
        obtain ⟨k, hk, rfl, rfl, hpk, HT⟩ := hrel
        by_cases hlt : k < N
        · obtain ⟨bp, hbp, hp⟩ := HT.out.pcell k (by rw [EN.out]; exact hlt)
          obtain ⟨bl, hbl, hl⟩ := HT.out.lcell k (by rw [EN.out]; exact hlt)
          subst hbp hbl
          have T1 : Hid (pos Ms (k + 1) = pos Ms k + sizes Ms k + 9) := Lib.hid (pos_succ Ms k (by rw [EN.out]; exact hlt))
          obtain ⟨P, eP⟩ : ∃ x, pos Ms k = x := ⟨_, rfl⟩
          obtain ⟨S, eS⟩ : ∃ x, sizes Ms k = x := ⟨_, rfl⟩
          have EP := Lib.hid eP
          rw [eP] at hp T1 hpk ⊢
          rw [eS] at hl T1
          obtain ⟨fa, efa⟩ : ∃ x, (g k).1 = x := ⟨_, rfl⟩
          obtain ⟨fc, efc⟩ : ∃ x, (g k).2 = x := ⟨_, rfl⟩
          rw [efa, efc] at hl
          have hS : S ≤ 1048576 := by rw [← eS]; exact (HX.out.2.1 k (by rw [EN.out]; exact hlt)).2
          clear eP eS efa efc
          have q1 : decide ((k : Int) < (N : Int)) = true := by simp; omega
          by_cases hc : P + S + 9 ≤ Xn
          · have q2 : decide ((P : Int) + (S : Int) + 9 ≤ (Xn : Int)) = true := by simp; omega
            go_wp2
            go_quiet (fail)
            go_wp2
            go_quiet (fail)
            go_wp2
            exact ⟨⟨k + 1, by omega, by go_num, by rw [T1.out]; congr 1, by rw [T1.out]; omega, Lib.hid (HT.out.below (pw_below_drewN (Below.refl _ _) _))⟩, by simp [intOf]; omega⟩
          · have q2 : decide ((P : Int) + (S : Int) + 9 ≤ (Xn : Int)) = false := by simp; omega
            go_wp2
            go_quiet (fail)
            go_wp2_with fail
            have FIT : Hid (fits Ms Xn k) := Lib.hid ⟨by rw [EN.out]; exact hk, by rw [EP.out]; exact hpk, fun _ => by rw [T1.out]; omega⟩
            have HT2 := Lib.hid (HT.out.below (pw_below_drewN (Below.refl _ _) nq))
            obtain ⟨W, hW⟩ : ∃ V, wr.drewN nq = V := ⟨_, rfl⟩
            rw [hW] at HT2 ⊢
            clear hW HT q1 q2 hp hl T1
            have hfit := FIT.out
            have hL0 : (X.take Xn).length = Xn := by rw [List.length_take, EX.out]; omega
            have HB0 := torn_begins Ms HX.out.2.1 Xn k (by rw [← HX.out.1, EX.out]; omega) hfit
            rw [← HX.out.1] at HB0
            have HB := Lib.hid HB0
            have HO := Lib.hid (torn_one Ms HX.out.2.1 Xn k (by rw [← HX.out.1, EX.out]; omega) hfit)
            have rd0 := own_rd HT2.out.a (by rw [EX.out]; omega)
            have RX := Lib.hid (And.intro (rd0.1.take Xn) rd0.2)
            have HLb : Hid (Bytes (X.take Xn)) := Lib.hid (Bytes.take (by rw [HX.out.1]; exact joinL_bytes Ms HX.out.2.2) _)
            have K9 := through_calls aa ca (X.take Xn) W RX.out.1 HLb.out (by rw [hL0]; omega)
            rw [hL0] at K9
            have HK9 := Lib.hid K9
            have HL0 := Lib.hid hL0
            clear hfit HB0 rd0 K9 hL0
            refine HK9.out.mono ?_
            rintro e W1 ⟨hB2, v1, v2, xs, rfl, hxs, h1, h2, h3⟩
            obtain ⟨a1, c1, rfl⟩ := own_form h1
            obtain ⟨a2, c2, rfl⟩ := own_form h2
            have hxl : xs.length = k := by have := congrArg List.length hxs; rw [List.length_map, upto_length, HB.out.cnt HX.out.2.1] at this; exact this
            rw [hxl] at h1 h2 ⊢
            have HS := Lib.hid (And.intro h1 (And.intro h2 (And.intro h3 (And.intro hxs hxl))))
            have HT3 := Lib.hid (HT2.out.below hB2)
            have HRX := Lib.hid (RX.out.1.below hB2)
            have HBw := Lib.hid hB2
            clear h1 h2 h3 hxs hxl hB2 HK9 HT2
            go_wp2_with fail
            have bA := below_alloc1 W1 (.cells #[.slice a1 k c1, .slice a2 k c2] 30)
            have nA := heap_alloc_new W1 (.cells #[.slice a1 k c1, .slice a2 k c2] 30)
            obtain ⟨G, eG⟩ : ∃ G, W1.heap.size = G := ⟨_, rfl⟩
            rw [eG] at nA
            obtain ⟨W2, hW2⟩ : ∃ V, W1.alloc (.cells #[.slice a1 k c1, .slice a2 k c2] 30) = V := ⟨_, rfl⟩
            rw [hW2] at bA nA
            rw [hW2, eG]
            have KW := whole_calls aa ca (X.take Xn) W2 (HRX.out.below bA) (fun a ha => ⟨Nat.lt_of_lt_of_le (RX.out.2.2.1 a ha).1 (Nat.le_trans HBw.out.size bA.size), (RX.out.2.2.1 a ha).2⟩) RX.out.2.2.2.1 HLb.out (by rw [HL0.out]; omega) (by rw [HL0.out]; omega)
            rw [HB.out.cnt HX.out.2.1, HB.out.at HX.out.2.1 k (Nat.le_refl _), HL0.out, EP.out] at KW
            have HKW := Lib.hid KW
            have HT4 := Lib.hid (HT3.out.below bA)
            have HRX4 := Lib.hid (HRX.out.below bA)
            have HA := Lib.hid (And.intro bA (And.intro nA eG))
            clear KW bA nA hW2 eG HT3 HRX
            refine HKW.out.mono ?_
            rintro e W3 ⟨rfl, hB3⟩
            have glt : G < W2.heap.size := (Array.getElem?_eq_some_iff.1 HA.out.2.1).1
            have n3 : W3.heap[G]? = some (.cells #[.slice a1 k c1, .slice a2 k c2] 30 (0, 0)) := (hB3.block G glt).trans HA.out.2.1
            have y0 : W3.cell? ⟨G, 0, none⟩ = some (.slice a1 k c1) := (cell_of_row W3 G 0 _ _ _ n3).trans rfl
            have m1 : ((k : Int) != (k : Int)) = false := by simp
            have m2 : ((P : Int) != (P : Int)) = false := by simp
            have HT5 := Lib.hid (HT4.out.below hB3)
            have HRX5 := Lib.hid (HRX4.out.below hB3)
            have B13 : Below W1.heap.size W1 W3 := HA.out.1.trans (hB3.mono HA.out.1.size)
            have HS5 := Lib.hid (And.intro (own_then HS.out.1 B13) (And.intro (own_then HS.out.2.1 B13) (And.intro (fun x hx => (B13.block _ (Array.getElem?_eq_some_iff.1 (HS.out.2.2.1 x hx)).1).trans (HS.out.2.2.1 x hx)) (And.intro HS.out.2.2.2.1 HS.out.2.2.2.2))))
            have HN3 := Lib.hid n3
            have HBw5 := Lib.hid (below_then HBw.out HBw.out.size B13)
            clear n3 hB3 HKW HT4 HRX4 B13 HS HBw HA glt
            go_wp2
            go_loopw [14] (fun i wr => ∃ j : Nat, j ≤ k ∧ i = .int .i64 j ∧ Hid (Below W3.heap.size W3 wr)) (fun i _ => k - (intOf i).toNat)
            case atStart => exact ⟨0, by omega, rfl, Lib.hid (Below.refl _ _)⟩
            case round =>
              obtain ⟨j, hj, rfl, HBj⟩ := hrel
              clear y0 m1 m2
              by_cases hlt : j < k
              · have hjN : j < Ms.length := by rw [EN.out]; omega
                obtain ⟨x, hx⟩ : ∃ x, xs[j]? = some x := ⟨_, List.getElem?_eq_getElem (by rw [HS5.out.2.2.2.2]; exact hlt)⟩
                have hfr : frameOf x = (pos Ms j, sizes Ms j) := by
                  have h8 := congrArg (fun l => l[j]?) HS5.out.2.2.2.1
                  simp only [List.getElem?_map, hx, Option.map_some] at h8
                  rw [HB.out.cnt HX.out.2.1] at h8
                  have h9 : (upto (frameAt (X.take Xn)) k)[j]? = some (frameAt (X.take Xn) j) := by simp [upto, hlt]
                  rw [h9] at h8
                  exact (Option.some.inj h8).trans (HB.out.frame HX.out.2.1 j hlt)
                obtain ⟨xp, xm, xg⟩ := x
                have e1 : xp = pos Ms j := congrArg Prod.fst hfr
                have e2 : xm = sizes Ms j := congrArg Prod.snd hfr
                subst e1 e2
                obtain ⟨b1, hb1, k1, _⟩ := own_at HS5.out.1 j hlt (.int .i64 ((pos Ms j : Int) + (8 + (sizes Ms j : Int) + 1))) (by rw [List.getElem?_map, hx]; rfl)
                obtain ⟨b2, hb2, k2, _⟩ := own_at HS5.out.2.1 j hlt (.slice (some ⟨xg, 0, none⟩) (sizes Ms j) (sizes Ms j)) (by rw [List.getElem?_map, hx]; rfl)
                obtain ⟨b3, hb3, k3⟩ := HT5.out.pcell j hjN
                obtain ⟨b4, hb4, k4⟩ := HT5.out.lcell j hjN
                cases hb1
                cases hb2
                cases hb3
                cases hb4
                have hrx := HS5.out.2.2.1 _ (List.mem_of_getElem? hx)
                have hrx2 : W3.heap[xg]? = some (.cells (bytesV (Ms.getD j [])).toArray 5 (0, 0)) := by rw [← HB.out.is j hlt]; exact hrx
                have hS := (HX.out.2.1 j hjN).2
                have RA := own_rdb hrx2 (by omega)
                have RB := HT5.out.r j hjN
                have KE : ∀ d os, Calls Try.prog 11 #[.slice (some ⟨xg, 0, none⟩) (sizes Ms j) (sizes Ms j), .slice (g j).1 (sizes Ms j) (g j).2] (grow (redrawn wr d) os) fun e w'' => e = .returned (.bool true) ∧ ∃ p : Regrown, w'' = grow (redrawn wr p.d) p.os := fun d os => Calls.regrown_of (eq_calls _ _ _ _ (Ms.getD j []) _ ((RA.below HBj.out).below (below_regrown wr d os)) ((RB.below HBj.out).below (below_regrown wr d os)))
                have x1 := cell_regrown (pw_cell_below HBj.out k1)
                have x2 := cell_regrown (pw_cell_below HBj.out k2)
                have x3 := cell_regrown (pw_cell_below HBj.out k3)
                have x4 := cell_regrown (pw_cell_below HBj.out k4)
                have y0 := cell_regrown (pw_cell_below HBj.out ((cell_of_row W3 G 0 _ _ _ HN3.out).trans (show _ = some (Value.slice (some ⟨b1, 0, none⟩) k c1) from rfl)))
                have y1 := cell_regrown (pw_cell_below HBj.out ((cell_of_row W3 G 1 _ _ _ HN3.out).trans (show _ = some (Value.slice (some ⟨b2, 0, none⟩) k c2) from rfl)))
                have hPj : pos Ms j ≤ 2147483647 := by have := pos_le Ms j (Nat.le_of_lt hjN); rw [← HX.out.1, EX.out] at this; omega
                have hSj : sizes Ms j ≤ 1048576 := hS
                obtain ⟨Pj, ePj⟩ : ∃ x, pos Ms j = x := ⟨_, rfl⟩
                obtain ⟨Sj, eSj⟩ : ∃ x, sizes Ms j = x := ⟨_, rfl⟩
                obtain ⟨ga, ega⟩ : ∃ x, (g j).1 = x := ⟨_, rfl⟩
                obtain ⟨gc, egc⟩ : ∃ x, (g j).2 = x := ⟨_, rfl⟩
                rw [ePj] at x1 x3 hPj
                rw [eSj] at x1 x2 x4 KE hSj
                rw [ega, egc] at x4 KE
                clear hx hfr k1 k2 k3 k4 hrx hrx2 hS RA RB ePj eSj ega egc
                have q0 : ((Pj : Int) + (8 + (Sj : Int) + 1) != (Pj : Int) + (Sj : Int) + 9) = false := by rw [bne_eq_false_iff_eq]; omega
                go_wp2_with fail
                refine wp_region_quiet_below (by kernel_rfl) (by kernel_rfl) ?_
                repeat (go_big_quiet_step (exact KE _ _))
                refine wpQuiet_nil ?_
                intro _ hw'
                obtain ⟨⟨dq, osq⟩, hw''⟩ := hw'
                subst hw''
                have HBn := Lib.hid (below_then HBj.out HBj.out.size (below_regrown wr dq osq))
                clear KE x1 x2 x3 x4 y0 y1 q0
                go_wp2
                exact ⟨⟨j + 1, by omega, by go_num, HBn⟩, by simp [intOf]; omega⟩
              · obtain rfl : j = k := by omega
                have KO := one_calls aa ca (X.take Xn) wr (HRX5.out.below HBj.out) HLb.out (by rw [HL0.out]; omega) (by rw [HL0.out]; omega)
                rw [HL0.out] at KO
                have HKO := Lib.hid KO
                clear KO
                go_wp2_with fail
                refine HKO.out.mono ?_
                rintro e W6 ⟨hB6, hP6⟩
                have HF := Lib.hid (below_then (below_then (below_then HB1.out HB1.out.size (HT5.out.b.mono (Nat.le_refl _))) (by have := HB1.out.size; have := HT5.out.b.size; omega) HBj.out) (by have := HB1.out.size; have := HT5.out.b.size; have := HBj.out.size; omega) hB6)
                have ho := HO.out
                rw [← HX.out.1, EP.out] at ho
                clear hB6 HKO
                cases hO : oneB (X.take Xn) with
                | none =>
                  rw [hO] at hP6 ho
                  obtain rfl := hP6
                  have hno : ¬ (j = 1 ∧ P = Xn) := by simpa using ho.symm
                  have HNO := Lib.hid hno
                  clear hno ho hO
                  by_cases j1 : j = 1
                  · have z1 : ((j : Int) == 1) = true := by simp [j1]
                    have z2 : ((P : Int) == (Xn : Int)) = false := by
                      have : P ≠ Xn := fun e => HNO.out ⟨j1, e⟩
                      simp; omega
                    have HJ1 := Lib.hid j1
                    clear j1
                    go_wp2
                    go_ret
                    exact ⟨by simp, HF.out⟩
                  · have z1 : ((j : Int) == 1) = false := by simp; omega
                    go_wp2
                    go_ret
                    exact ⟨by simp, HF.out⟩
                | some L =>
                  rw [hO] at hP6 ho
                  obtain ⟨g9, c9, rfl, hR9⟩ := hP6
                  have hyes : j = 1 ∧ P = Xn := by simpa using ho.symm
                  have z1 : ((j : Int) == 1) = true := by simp [hyes.1]
                  have z2 : ((P : Int) == (Xn : Int)) = true := by simp [hyes.2]
                  clear hyes ho hO hR9
                  go_wp2
                  go_ret
                  exact ⟨by simp, HF.out⟩

        · obtain rfl : k = N := by omega
          obtain ⟨P, eP⟩ : ∃ x, pos Ms k = x := ⟨_, rfl⟩
          have EP := Lib.hid eP
          rw [eP] at hpk ⊢
          clear eP
          have q1 : decide ((k : Int) < (k : Int)) = false := by simp
          go_wp2_with fail
          go_quiet (fail)
          go_wp2_with fail
          have FIT : Hid (fits Ms Xn k) := Lib.hid ⟨by rw [EN.out]; exact Nat.le_refl _, by rw [EP.out]; exact hpk, fun h => by rw [EN.out] at h; omega⟩
          have HT2 := Lib.hid (HT.out.below (pw_below_drewN (Below.refl _ _) nq))
          obtain ⟨W, hW⟩ : ∃ V, wr.drewN nq = V := ⟨_, rfl⟩
          rw [hW] at HT2 ⊢
          clear hW HT q1
          have hfit := FIT.out
          have hL0 : (X.take Xn).length = Xn := by rw [List.length_take, EX.out]; omega
          have HB0 := torn_begins Ms HX.out.2.1 Xn k (by rw [← HX.out.1, EX.out]; omega) hfit
          rw [← HX.out.1] at HB0
          have HB := Lib.hid HB0
          have HO := Lib.hid (torn_one Ms HX.out.2.1 Xn k (by rw [← HX.out.1, EX.out]; omega) hfit)
          have rd0 := own_rd HT2.out.a (by rw [EX.out]; omega)
          have RX := Lib.hid (And.intro (rd0.1.take Xn) rd0.2)
          have HLb : Hid (Bytes (X.take Xn)) := Lib.hid (Bytes.take (by rw [HX.out.1]; exact joinL_bytes Ms HX.out.2.2) _)
          have K9 := through_calls aa ca (X.take Xn) W RX.out.1 HLb.out (by rw [hL0]; omega)
          rw [hL0] at K9
          have HK9 := Lib.hid K9
          have HL0 := Lib.hid hL0
          clear hfit HB0 rd0 K9 hL0
          refine HK9.out.mono ?_
          rintro e W1 ⟨hB2, v1, v2, xs, rfl, hxs, h1, h2, h3⟩
          obtain ⟨a1, c1, rfl⟩ := own_form h1
          obtain ⟨a2, c2, rfl⟩ := own_form h2
          have hxl : xs.length = k := by have := congrArg List.length hxs; rw [List.length_map, upto_length, HB.out.cnt HX.out.2.1] at this; exact this
          rw [hxl] at h1 h2 ⊢
          have HS := Lib.hid (And.intro h1 (And.intro h2 (And.intro h3 (And.intro hxs hxl))))
          have HT3 := Lib.hid (HT2.out.below hB2)
          have HRX := Lib.hid (RX.out.1.below hB2)
          have HBw := Lib.hid hB2
          clear h1 h2 h3 hxs hxl hB2 HK9 HT2
          go_wp2_with fail
          have bA := below_alloc1 W1 (.cells #[.slice a1 k c1, .slice a2 k c2] 30)
          have nA := heap_alloc_new W1 (.cells #[.slice a1 k c1, .slice a2 k c2] 30)
          obtain ⟨G, eG⟩ : ∃ G, W1.heap.size = G := ⟨_, rfl⟩
          rw [eG] at nA
          obtain ⟨W2, hW2⟩ : ∃ V, W1.alloc (.cells #[.slice a1 k c1, .slice a2 k c2] 30) = V := ⟨_, rfl⟩
          rw [hW2] at bA nA
          rw [hW2, eG]
          have KW := whole_calls aa ca (X.take Xn) W2 (HRX.out.below bA) (fun a ha => ⟨Nat.lt_of_lt_of_le (RX.out.2.2.1 a ha).1 (Nat.le_trans HBw.out.size bA.size), (RX.out.2.2.1 a ha).2⟩) RX.out.2.2.2.1 HLb.out (by rw [HL0.out]; omega) (by rw [HL0.out]; omega)
          rw [HB.out.cnt HX.out.2.1, HB.out.at HX.out.2.1 k (Nat.le_refl _), HL0.out, EP.out] at KW
          have HKW := Lib.hid KW
          have HT4 := Lib.hid (HT3.out.below bA)
          have HRX4 := Lib.hid (HRX.out.below bA)
          have HA := Lib.hid (And.intro bA (And.intro nA eG))
          clear KW bA nA hW2 eG HT3 HRX
          refine HKW.out.mono ?_
          rintro e W3 ⟨rfl, hB3⟩
          have glt : G < W2.heap.size := (Array.getElem?_eq_some_iff.1 HA.out.2.1).1
          have n3 : W3.heap[G]? = some (.cells #[.slice a1 k c1, .slice a2 k c2] 30 (0, 0)) := (hB3.block G glt).trans HA.out.2.1
          have y0 : W3.cell? ⟨G, 0, none⟩ = some (.slice a1 k c1) := (cell_of_row W3 G 0 _ _ _ n3).trans rfl
          have m1 : ((k : Int) != (k : Int)) = false := by simp
          have m2 : ((P : Int) != (P : Int)) = false := by simp
          have HT5 := Lib.hid (HT4.out.below hB3)
          have HRX5 := Lib.hid (HRX4.out.below hB3)
          have B13 : Below W1.heap.size W1 W3 := HA.out.1.trans (hB3.mono HA.out.1.size)
          have HS5 := Lib.hid (And.intro (own_then HS.out.1 B13) (And.intro (own_then HS.out.2.1 B13) (And.intro (fun x hx => (B13.block _ (Array.getElem?_eq_some_iff.1 (HS.out.2.2.1 x hx)).1).trans (HS.out.2.2.1 x hx)) (And.intro HS.out.2.2.2.1 HS.out.2.2.2.2))))
          have HN3 := Lib.hid n3
          have HBw5 := Lib.hid (below_then HBw.out HBw.out.size B13)
          clear n3 hB3 HKW HT4 HRX4 B13 HS HBw HA glt
          go_wp2
          go_loopw [14] (fun i wr => ∃ j : Nat, j ≤ k ∧ i = .int .i64 j ∧ Hid (Below W3.heap.size W3 wr)) (fun i _ => k - (intOf i).toNat)
          case atStart => exact ⟨0, by omega, rfl, Lib.hid (Below.refl _ _)⟩
          case round =>
            obtain ⟨j, hj, rfl, HBj⟩ := hrel
            clear y0 m1 m2
            by_cases hlt : j < k
            · have hjN : j < Ms.length := by rw [EN.out]; omega
              obtain ⟨x, hx⟩ : ∃ x, xs[j]? = some x := ⟨_, List.getElem?_eq_getElem (by rw [HS5.out.2.2.2.2]; exact hlt)⟩
              have hfr : frameOf x = (pos Ms j, sizes Ms j) := by
                have h8 := congrArg (fun l => l[j]?) HS5.out.2.2.2.1
                simp only [List.getElem?_map, hx, Option.map_some] at h8
                rw [HB.out.cnt HX.out.2.1] at h8
                have h9 : (upto (frameAt (X.take Xn)) k)[j]? = some (frameAt (X.take Xn) j) := by simp [upto, hlt]
                rw [h9] at h8
                exact (Option.some.inj h8).trans (HB.out.frame HX.out.2.1 j hlt)
              obtain ⟨xp, xm, xg⟩ := x
              have e1 : xp = pos Ms j := congrArg Prod.fst hfr
              have e2 : xm = sizes Ms j := congrArg Prod.snd hfr
              subst e1 e2
              obtain ⟨b1, hb1, k1, _⟩ := own_at HS5.out.1 j hlt (.int .i64 ((pos Ms j : Int) + (8 + (sizes Ms j : Int) + 1))) (by rw [List.getElem?_map, hx]; rfl)
              obtain ⟨b2, hb2, k2, _⟩ := own_at HS5.out.2.1 j hlt (.slice (some ⟨xg, 0, none⟩) (sizes Ms j) (sizes Ms j)) (by rw [List.getElem?_map, hx]; rfl)
              obtain ⟨b3, hb3, k3⟩ := HT5.out.pcell j hjN
              obtain ⟨b4, hb4, k4⟩ := HT5.out.lcell j hjN
              cases hb1
              cases hb2
              cases hb3
              cases hb4
              have hrx := HS5.out.2.2.1 _ (List.mem_of_getElem? hx)
              have hrx2 : W3.heap[xg]? = some (.cells (bytesV (Ms.getD j [])).toArray 5 (0, 0)) := by rw [← HB.out.is j hlt]; exact hrx
              have hS := (HX.out.2.1 j hjN).2
              have RA := own_rdb hrx2 (by omega)
              have RB := HT5.out.r j hjN
              have KE : ∀ d os, Calls Try.prog 11 #[.slice (some ⟨xg, 0, none⟩) (sizes Ms j) (sizes Ms j), .slice (g j).1 (sizes Ms j) (g j).2] (grow (redrawn wr d) os) fun e w'' => e = .returned (.bool true) ∧ ∃ p : Regrown, w'' = grow (redrawn wr p.d) p.os := fun d os => Calls.regrown_of (eq_calls _ _ _ _ (Ms.getD j []) _ ((RA.below HBj.out).below (below_regrown wr d os)) ((RB.below HBj.out).below (below_regrown wr d os)))
              have x1 := cell_regrown (pw_cell_below HBj.out k1)
              have x2 := cell_regrown (pw_cell_below HBj.out k2)
              have x3 := cell_regrown (pw_cell_below HBj.out k3)
              have x4 := cell_regrown (pw_cell_below HBj.out k4)
              have y0 := cell_regrown (pw_cell_below HBj.out ((cell_of_row W3 G 0 _ _ _ HN3.out).trans (show _ = some (Value.slice (some ⟨b1, 0, none⟩) k c1) from rfl)))
              have y1 := cell_regrown (pw_cell_below HBj.out ((cell_of_row W3 G 1 _ _ _ HN3.out).trans (show _ = some (Value.slice (some ⟨b2, 0, none⟩) k c2) from rfl)))
              have hPj : pos Ms j ≤ 2147483647 := by have := pos_le Ms j (Nat.le_of_lt hjN); rw [← HX.out.1, EX.out] at this; omega
              have hSj : sizes Ms j ≤ 1048576 := hS
              obtain ⟨Pj, ePj⟩ : ∃ x, pos Ms j = x := ⟨_, rfl⟩
              obtain ⟨Sj, eSj⟩ : ∃ x, sizes Ms j = x := ⟨_, rfl⟩
              obtain ⟨ga, ega⟩ : ∃ x, (g j).1 = x := ⟨_, rfl⟩
              obtain ⟨gc, egc⟩ : ∃ x, (g j).2 = x := ⟨_, rfl⟩
              rw [ePj] at x1 x3 hPj
              rw [eSj] at x1 x2 x4 KE hSj
              rw [ega, egc] at x4 KE
              clear hx hfr k1 k2 k3 k4 hrx hrx2 hS RA RB ePj eSj ega egc
              have q0 : ((Pj : Int) + (8 + (Sj : Int) + 1) != (Pj : Int) + (Sj : Int) + 9) = false := by rw [bne_eq_false_iff_eq]; omega
              go_wp2_with fail
              refine wp_region_quiet_below (by kernel_rfl) (by kernel_rfl) ?_
              repeat (go_big_quiet_step (exact KE _ _))
              refine wpQuiet_nil ?_
              intro _ hw'
              obtain ⟨⟨dq, osq⟩, hw''⟩ := hw'
              subst hw''
              have HBn := Lib.hid (below_then HBj.out HBj.out.size (below_regrown wr dq osq))
              clear KE x1 x2 x3 x4 y0 y1 q0
              go_wp2
              exact ⟨⟨j + 1, by omega, by go_num, HBn⟩, by simp [intOf]; omega⟩
            · obtain rfl : j = k := by omega
              have KO := one_calls aa ca (X.take Xn) wr (HRX5.out.below HBj.out) HLb.out (by rw [HL0.out]; omega) (by rw [HL0.out]; omega)
              rw [HL0.out] at KO
              have HKO := Lib.hid KO
              clear KO
              go_wp2_with fail
              refine HKO.out.mono ?_
              rintro e W6 ⟨hB6, hP6⟩
              have HF := Lib.hid (below_then (below_then (below_then HB1.out HB1.out.size (HT5.out.b.mono (Nat.le_refl _))) (by have := HB1.out.size; have := HT5.out.b.size; omega) HBj.out) (by have := HB1.out.size; have := HT5.out.b.size; have := HBj.out.size; omega) hB6)
              have ho := HO.out
              rw [← HX.out.1, EP.out] at ho
              clear hB6 HKO
              cases hO : oneB (X.take Xn) with
              | none =>
                rw [hO] at hP6 ho
                obtain rfl := hP6
                have hno : ¬ (j = 1 ∧ P = Xn) := by simpa using ho.symm
                have HNO := Lib.hid hno
                clear hno ho hO
                by_cases j1 : j = 1
                · have z1 : ((j : Int) == 1) = true := by simp [j1]
                  have z2 : ((P : Int) == (Xn : Int)) = false := by
                    have : P ≠ Xn := fun e => HNO.out ⟨j1, e⟩
                    simp; omega
                  have HJ1 := Lib.hid j1
                  clear j1
                  go_wp2
                  go_ret
                  exact ⟨by simp, HF.out⟩
                · have z1 : ((j : Int) == 1) = false := by simp; omega
                  go_wp2
                  go_ret
                  exact ⟨by simp, HF.out⟩
              | some L =>
                rw [hO] at hP6 ho
                obtain ⟨g9, c9, rfl, hR9⟩ := hP6
                have hyes : j = 1 ∧ P = Xn := by simpa using ho.symm
                have z1 : ((j : Int) == 1) = true := by simp [hyes.1]
                have z2 : ((P : Int) == (Xn : Int)) = true := by simp [hyes.2]
                clear hyes ho hO hR9
                go_wp2
                go_ret
                exact ⟨by simp, HF.out⟩


end Go.Proofs.Ytbcijdgpaglbnaa.Q
