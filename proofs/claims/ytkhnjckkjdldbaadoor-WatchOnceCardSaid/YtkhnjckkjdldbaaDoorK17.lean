import Derived.Test.YtkhnjckkjdldbaaDoorK16
namespace Go.Proofs.YtkhnjckkjdldbaaDoor.Q
open Go.RowKit Go.Proofs.YtkhnjckkjdldbaaDoorW.PrintWords Go.Deep Go.Maps Go.WideShapes
open Go.Proofs.YtkhnjckkjdldbaaDoor.Pr (S30 S32 S34 z30 k30 k32 k34 rd_T30 rd_T34)
open Go.Proofs.YtkhnjckkjdldbaaDoor
open Go.Proofs.YtkhnjckkjdldbaaDoor.Bag (AppTo wpList_app own_lower Row)
set_option linter.unusedVariables false
set_option linter.unusedSimpArgs false
attribute [local go_sem] Oper.semAt_some
attribute [local go_sem high] Pr.eqA30 eqAC
/-! WATCHONCE (printed by mkonce.py) -/
set_option maxRecDepth 100000 in
set_option maxHeartbeats 16000000 in
theorem watchOnce_calls (A0 : Option Addr) (c0 : Nat) (l : List S34) (w : World) (hr0 : Kd.C k34 w A0 l.length l) (hc0 : l.length ≤ c0) (hwf : ∀ x ∈ l, wfW x.f2) (hT : Tabs w) :
    Calls Tryd.prog 3 #[.slice A0 l.length c0] w fun e w' => e = .returned (.bool true) ∧ Below w.heap.size w w' := by
  obtain ⟨r, hrf, hlg⟩ := long_f l
  have KLg := Pr.lagoonlaw18_long.calls _ A0 c0 l r w hr0 hc0 hrf
  have HR0 := Lib.hid hr0
  have HWF := Lib.hid hwf
  have HT := Lib.hid hT
  obtain ⟨N, hN⟩ : ∃ n, l.length = n := ⟨_, rfl⟩
  have HN := Lib.hid hN
  rw [hN] at hc0 KLg ⊢
  have KLg := Lib.hid KLg
  have HLG := Lib.hid hlg
  obtain ⟨iW, hi, hz0, hz1, hz2⟩ := info_parts infoW
  have HI := Lib.hid (And.intro hi (And.intro hz0 (And.intro hz1 hz2)))
  clear hr0 hwf hT hN hrf hlg hi hz0 hz1 hz2
  go_enter Tryd.func3, Tryd.ntmps3
  go_wp2_with fail
  refine KLg.out.mono ?_
  rintro e w1 ⟨rfl, hB⟩
  have HB1 := Lib.hid (show Below w.heap.size w w1 by first | exact hB | exact hB.below)
  clear hB KLg
  cases r with
  | true =>
    go_wp2
    go_ret
    exact ⟨rfl, HB1.out⟩
  | false =>
  obtain ⟨hN30, hszl⟩ := HLG.out rfl
  rw [HN.out] at hN30
  have HSZL := Lib.hid hszl
  have KL := Lib.hid (lives_calls w1 (tabs_from HT.out HB1.out))
  clear hszl HLG
  go_wp2_with fail
  refine KL.out.mono ?_
  rintro e w2 ⟨rfl, hB⟩
  have HB2 := Lib.hid (below_step HB1.out hB)
  have KN := Lib.hid (newB_calls w2)
  clear hB KL
  go_wp2_with fail
  refine KN.out.mono ?_
  rintro e w3 ⟨c, b, rfl, hbr, hB, hbw, hcw⟩
  have hB3 := below_step HB2.out hB
  have HBC : Hid (w.heap.size ≤ b ∧ w.heap.size ≤ c ∧ b < w3.heap.size ∧ c < w3.heap.size) := Lib.hid ⟨by have := HB2.out.size; omega, by have := HB2.out.size; omega, by obtain ⟨D, h1, _⟩ := hbr.map; exact h1.lt, (Array.getElem?_eq_some_iff.1 hbr.cells).1⟩
  have HI0 : Hid (OnceI c b w3.heap.size w 0 (.slice none 0 0) w3) := Lib.hid ⟨⟨[], 0, hbr, by omega, fun q hq => absurd hq (by simp), World.ownsRow_nil _ _ _ _⟩, hB3, Nat.le_refl _⟩
  clear hbr hB hbw hcw KN hB3
  go_wp2_with fail
  go_loopw [5, 6] (fun v vi wr => ∃ x : Int, vi = .int .i64 x ∧ 0 ≤ x ∧ x ≤ (N : Int) ∧ Hid (OnceI c b w3.heap.size w x.toNat v wr)) (fun _ vi _ => ((N : Int) - intOf vi).toNat)
  case atStart => exact ⟨0, rfl, by omega, by omega, HI0⟩
  case round =>
  clear HI0
  obtain ⟨x, rfl, x0, xn, HA⟩ := hrel
  obtain ⟨v, hvv⟩ := HA.out.val
  subst hvv
  have hst := HA.out.st
  obtain ⟨P, came, hbr, hcame, hright, hown⟩ := hst
  have hcb : came < 4611686018427387904 := by omega
  obtain ⟨A1, d1, hv, hd1, hC1⟩ := row_CW (base := w3.heap.size) (xs := P.map Prod.fst) (by unfold Row; rw [List.length_map]; exact hown)
  have hfew : P.length ≤ 64 := hbr.few
  have hlt1 : ∀ k, v.ownBlock = some k → k < wr.heap.size := fun k hk => (World.ownsRow.lt hown k hk).2
  have hown1 : wr.ownsRow w3.heap.size 30 3 v (P.map Prod.fst).length ((P.map Prod.fst).flatMap encW) := by rw [List.length_map]; exact hown
  obtain ⟨T, hTL⟩ : ∃ t, P.map Prod.fst = t := ⟨_, rfl⟩
  have hTP : P.length = T.length := by rw [← hTL, List.length_map]
  rw [hTL] at hv hd1 hC1 hown1
  have HTL := Lib.hid hTL
  obtain ⟨n1, hn1⟩ : ∃ n, T.length = n := ⟨_, rfl⟩
  have HN1 := Lib.hid hn1
  rw [hn1] at hv hd1
  have hn64' : n1 ≤ 64 := by omega
  subst hv
  have HC1 := Lib.hid hC1
  have HOWN := Lib.hid hown1
  have HLT := Lib.hid hlt1
  have HBR := Lib.hid hbr
  have HRT := Lib.hid hright
  have HTP := Lib.hid hTP
  clear hbr hright hown hC1 hfew hlt1 hown1 hTL hn1 hTP
  by_cases c2 : x < (N : Int)
  · have q2 : decide (x < (N : Int)) = true := decide_eq_true c2
    have hx : x.toNat < l.length := by rw [HN.out]; omega
    obtain ⟨ad, eA, o0, o1, o2, o3, o4, o5, o6⟩ := Pr.at_T34 (Kd.C_below HR0.out HA.out.bel) x x0 (by rw [HN.out]; exact c2)
    have hrd : rd_T34 l x = l[x.toNat] := by simp [rd_T34, List.getD, List.getElem?_eq_getElem hx]
    rw [hrd] at o0 o1 o2 o3 o4 o5 o6
    obtain ⟨y, hy⟩ : ∃ y, l[x.toNat] = y := ⟨_, rfl⟩
    have hwy : wfW y.f2 := by rw [← hy]; exact HWF.out _ (List.getElem_mem _)
    have hsy : y.f2.f2.size ≤ 536870911 ∧ y.f3.f1.size ≤ 536870911 := by rw [← hy]; exact HSZL.out _ (List.getElem_mem _)
    rw [hy] at o0 o1 o2 o3 o4 o5 o6
    subst eA
    obtain ⟨pl, wh, ⟨a, k, p⟩, ⟨ck, cp⟩⟩ := y
    simp only at o0 o1 o2 o3 o4 o5 o6 hwy hsy
    obtain ⟨hs1, hs2⟩ := hsy
    have HWY := Lib.hid hwy
    obtain ⟨W1, hW1⟩ : ∃ V, wr.alloc (.cells #[.int .i64 pl, .int .i64 wh, .int .i64 a, .int .i8 k, .string p, .int .i8 ck, .string cp] 34) = V := ⟨_, rfl⟩
    have hB1 : Below wr.heap.size wr W1 := by rw [← hW1]; exact below_alloc (Below.refl _ _) _
    have hz1 : W1.heap[wr.heap.size]? = some (.cells #[.int .i64 pl, .int .i64 wh, .int .i64 a, .int .i8 k, .string p, .int .i8 ck, .string cp] 34 (0, 0)) := by rw [← hW1]; exact World.alloc_heap_new wr _
    have e1 := cell_rowK (k := 1) (v := .int .i64 wh) hz1 rfl
    have e2 := cell_rowK (k := 2) (v := .int .i64 a) hz1 rfl
    have e3 := cell_rowK (k := 3) (v := .int .i8 k) hz1 rfl
    have e4 := cell_rowK (k := 4) (v := .string p) hz1 rfl
    have e5 := cell_rowK (k := 5) (v := .int .i8 ck) hz1 rfl
    have e6 := cell_rowK (k := 6) (v := .string cp) hz1 rfl
    have HZ1 := Lib.hid hz1
    have HB1' := Lib.hid hB1
    have HWR := Lib.hid hW1
    have x0' := eq_true x0
    have c2' := eq_true c2
    have HTB : Hid (∀ W, Below w.heap.size w W → Tabs W) := Lib.hid (fun W h => tabs_from HT.out h)
    have HBW := Lib.hid (below_step HA.out.bel hB1)
    have HBR1 := Lib.hid (HBR.out.below hB1)
    have HOWN1 : Hid (W1.ownsRow w3.heap.size 30 3 (.slice A1 n1 d1) T.length (T.flatMap encW)) := Lib.hid (own_move HOWN.out fun k hk => hB1.block k (World.ownsRow.lt HOWN.out k hk).2)
    clear hrd hy hwy hz1 hB1
    by_cases cw0 : wh = 0
    · subst cw0
      obtain ⟨E, P2, came2, hadd⟩ : ∃ E P2 came2, addB P came ⟨a, k, p⟩ = (E, P2, came2) := ⟨_, _, _, rfl⟩
      have KA := add_calls ⟨a, k, p⟩ HBR1.out HWY.out (by show p.size ≤ _; omega) hcb (HTB.out _ HBW.out)
      rw [hadd] at KA
      simp only at KA
      have KA := Lib.hid KA
      have HADD := Lib.hid hadd
      rw [← hW1] at e1 e2 e3 e4
      clear hadd hW1 e5 e6
      go_wp2_with fail
      rw [HWR.out] at e1 e2 e3 e4 ⊢
      refine KA.out.mono ?_
      rintro e w5 ⟨rfl, hbr5, ho5⟩
      have hne : ∀ j, wr.heap.size ≤ j → ¬ (j = b ∨ j = c) := fun j hj => by have := HBC.out; have := HA.out.lo; omega
      have HZ5 := Lib.hid (ho5.blk HZ1.out (hne _ (Nat.le_refl _)))
      have HBR5 := Lib.hid hbr5
      have HB5 := Lib.hid (ho5.from HBW.out (fun k hk => by have := HBC.out; rcases hk with rfl | rfl <;> omega))
      have HOWN5 := Lib.hid (own_only HOWN1.out ho5 (fun k hk => by have := HBC.out; rcases hk with rfl | rfl <;> omega))
      have hsz5 : wr.heap.size < w5.heap.size := (Array.getElem?_eq_some_iff.1 HZ5.out).1
      have HSZ5 := Lib.hid hsz5
      have HLO5 : Hid (w3.heap.size ≤ w5.heap.size) := Lib.hid (by have := HA.out.lo; omega)
      clear KA hbr5 ho5 o0 o1 o2 o3 o4 o5 o6 e1 e2 e3 e4 HWR hne hsz5 HBR1 HOWN1
      have e2 : w5.cell? ⟨wr.heap.size, 2, none⟩ = _ := cell_rowK (k := 2) (v := .int .i64 a) HZ5.out rfl
      have e3 : w5.cell? ⟨wr.heap.size, 3, none⟩ = _ := cell_rowK (k := 3) (v := .int .i8 k) HZ5.out rfl
      have e4 : w5.cell? ⟨wr.heap.size, 4, none⟩ = _ := cell_rowK (k := 4) (v := .string p) HZ5.out rfl
      have KI := is_calls ⟨a, k, p⟩ w5 (by show p.size ≤ _; omega)
      obtain ⟨R, hR⟩ : ∃ r, rightB ⟨a, k, p⟩ = r := ⟨_, rfl⟩
      rw [hR] at KI
      have HR := Lib.hid hR
      have KI := Lib.hid KI
      clear hR
      go_wp2_with fail
      refine KI.out.mono ?_
      rintro e w6 ⟨rfl, hB⟩
      have HZ6 := Lib.hid (blkK HZ5.out hB)
      have HBR6 := Lib.hid (HBR5.out.below hB)
      have HB6 := Lib.hid (below_step HB5.out hB)
      have HOWN6 := Lib.hid (own_move HOWN5.out fun k hk => hB.block k (World.ownsRow.lt HOWN5.out k hk).2)
      have HLO6 : Hid (w3.heap.size ≤ w6.heap.size) := Lib.hid (Nat.le_trans HLO5.out hB.size)
      have HSZ6 : Hid (wr.heap.size < w6.heap.size) := Lib.hid (Nat.lt_of_lt_of_le HSZ5.out hB.size)
      clear KI hB e2 e3 e4 HZ5 HBR5 HB5 HOWN5 HSZ5 HLO5
      have e2 : w6.cell? ⟨wr.heap.size, 2, none⟩ = _ := cell_rowK (k := 2) (v := .int .i64 a) HZ6.out rfl
      have e3 : w6.cell? ⟨wr.heap.size, 3, none⟩ = _ := cell_rowK (k := 3) (v := .int .i8 k) HZ6.out rfl
      have e4 : w6.cell? ⟨wr.heap.size, 4, none⟩ = _ := cell_rowK (k := 4) (v := .string p) HZ6.out rfl
      have hC6 : Kd.C k30 w6 A1 T.length T := by
        obtain ⟨A, c', e, h, hC⟩ := row_CW (base := w3.heap.size) (v := .slice A1 n1 d1) (xs := T) HOWN6.out
        cases e
        exact hC
      have KH := has_f T ⟨a, k, p⟩ (by rw [HN1.out]; omega)
      have KH2 := Pr.lagoonlaw18_has.calls _ _ d1 T a k p _ w6 hC6 (by rw [HN1.out]; exact hd1) KH
      have hcnt := count_in P ⟨a, k, p⟩
      rw [HTL.out] at hcnt
      obtain ⟨cn, hcn⟩ : ∃ n : Int, ((T.countP (eqWB ⟨a, k, p⟩) : Nat) : Int) = n := ⟨_, rfl⟩
      rw [hcn] at hcnt KH2
      rw [HN1.out] at KH2
      have HCNT := Lib.hid hcnt
      have KH2 := Lib.hid KH2
      clear hC6 KH hcn hcnt
      go_wp2_with fail
      refine KH2.out.mono ?_
      rintro e w7 ⟨rfl, hB⟩
      have hB7 : Below w6.heap.size w6 w7 := by first | exact hB | exact hB.below
      have HZ7 := Lib.hid (blkK HZ6.out hB7)
      have HBR7 := Lib.hid (HBR6.out.below hB7)
      have HB7 := Lib.hid (below_step HB6.out hB7)
      have HOWN7 := Lib.hid (own_move HOWN6.out fun k hk => hB7.block k (World.ownsRow.lt HOWN6.out k hk).2)
      have HLO7 : Hid (w3.heap.size ≤ w7.heap.size) := Lib.hid (Nat.le_trans HLO6.out hB7.size)
      have HSZ7 : Hid (wr.heap.size < w7.heap.size) := Lib.hid (Nat.lt_of_lt_of_le HSZ6.out hB7.size)
      clear KH2 hB hB7 e2 e3 e4 HZ6 HBR6 HB6 HOWN6 HSZ6 HLO6
      have e1 : w7.cell? ⟨wr.heap.size, 1, none⟩ = _ := cell_rowK (k := 1) (v := .int .i64 0) HZ7.out rfl
      have e2 : w7.cell? ⟨wr.heap.size, 2, none⟩ = _ := cell_rowK (k := 2) (v := .int .i64 a) HZ7.out rfl
      have e3 : w7.cell? ⟨wr.heap.size, 3, none⟩ = _ := cell_rowK (k := 3) (v := .int .i8 k) HZ7.out rfl
      have e4 : w7.cell? ⟨wr.heap.size, 4, none⟩ = _ := cell_rowK (k := 4) (v := .string p) HZ7.out rfl
      have hcases := add_cases P came ⟨a, k, p⟩
      rw [HADD.out, HR.out] at hcases
      rw [HTP.out, HN1.out] at hcases
      obtain ⟨ol, hol⟩ : ∃ o, inB P ⟨a, k, p⟩ = o := ⟨_, rfl⟩
      have hcnt := HCNT.out
      rw [hol] at hcnt hcases
      clear HCNT
      rcases hcases with ⟨rfl, h2⟩ | ⟨rfl, rfl, h2⟩ | ⟨rfl, rfl, h3, h2⟩ | ⟨rfl, rfl, h3, h2⟩

      · cases h2
        have hrm : decide ((n1 : Int) < 64) = decide ((n1 : Int) < 64) := rfl
        obtain ⟨rm, hrm⟩ : ∃ r, decide ((n1 : Int) < 64) = r := ⟨_, rfl⟩
        go_wp2
        go_roundw
        case measure => simp [intOf]; omega
        case rel =>
          refine ⟨x + 1, rfl, by omega, by omega, Lib.hid ?_⟩
          rw [show (x + 1).toNat = x.toNat + 1 by omega]
          exact ⟨⟨_, _, HBR7.out, by omega, HRT.out, by rw [HTL.out, HTP.out]; exact HOWN7.out⟩, HB7.out, HLO7.out⟩

      · cases h2
        obtain ⟨rm, hrm⟩ : ∃ r, decide ((n1 : Int) < 64) = r := ⟨_, rfl⟩
        go_wp2
        go_roundw
        case measure => simp [intOf]; omega
        case rel =>
          refine ⟨x + 1, rfl, by omega, by omega, Lib.hid ?_⟩
          rw [show (x + 1).toNat = x.toNat + 1 by omega]
          exact ⟨⟨_, _, HBR7.out, by omega, HRT.out, by rw [HTL.out, HTP.out]; exact HOWN7.out⟩, HB7.out, HLO7.out⟩

      · cases h2
        have hrm : decide ((n1 : Int) < 64) = false := decide_eq_false (by omega)
        go_wp2
        go_roundw
        case measure => simp [intOf]; omega
        case rel =>
          refine ⟨x + 1, rfl, by omega, by omega, Lib.hid ?_⟩
          rw [show (x + 1).toNat = x.toNat + 1 by omega]
          exact ⟨⟨_, _, HBR7.out, by omega, HRT.out, by rw [HTL.out, HTP.out]; exact HOWN7.out⟩, HB7.out, HLO7.out⟩
      · cases h2
        have hrm : decide ((n1 : Int) < 64) = true := decide_eq_true (by omega)
        have hst7 : OnceS c b w3.heap.size w T (.slice A1 n1 d1) (P ++ [(⟨a, k, p⟩, came)]) (came + 1) w7 := ⟨HBR7.out, HB7.out, HOWN7.out, HLO7.out⟩
        have HST7 := Lib.hid hst7
        clear hst7

        have HL64 := Lib.hid (show T.length ≤ 63 by rw [HN1.out]; omega)
        obtain ⟨W4, hW4⟩ : ∃ V, w7.alloc (.cells #[Value.int .i64 a, Value.int .i8 k, Value.string p] 30) = V := ⟨_, rfl⟩
        have hB4 : Below w7.heap.size w7 W4 := by rw [← hW4]; exact below_alloc (Below.refl _ _) _
        have hz4 := World.alloc_heap_new w7 (.cells #[Value.int .i64 a, Value.int .i8 k, Value.string p] 30)
        rw [hW4] at hz4
        have HF4 := Lib.hid (HST7.out.below hB4)
        have HOW := Lib.hid HF4.out.row
        have HNW := Lib.hid (World.news_of_block hz4)
        have HBS4 : Hid (w3.heap.size ≤ W4.heap.size) := Lib.hid HF4.out.lo
        have HB4 := Lib.hid hB4
        have ho1 : ∀ u ∈ [Value.int .i64 a, Value.int .i8 k, Value.string p], u.oneCell' = true := by simp [Value.oneCell']
        have HO1 := Lib.hid ho1
        rw [← hW4] at HOW HNW HBS4
        have HW4 := Lib.hid hW4
        clear hB4 hz4 ho1 hW4
        go_wp2_with (first | (at_builtin; refine wpList_app rfl (.tmp 73) (.tmp 76) 27 rfl 30 iW _ 3 32 Tryd.underlying27 HI.out.1 HI.out.2.1 HI.out.2.2.1 HI.out.2.2.2 rfl (by decide) w3.heap.size _ _ _ rfl HOW.out ⟨w7.heap.size, 0, none⟩ 1 [Value.int .i64 a, Value.int .i8 k, Value.string p] rfl rfl HNW.out HO1.out (by have := HL64.out; unfold maxLen; omega) (by have := HL64.out; omega) HBS4.out ?_; intro g7 cap7 w7_ hown7 hA7; have H7 := Lib.hid (And.intro hown7 hA7); have HZ8 := Lib.hid (appT_blk hA7 (by rw [HW4.out]; exact blkK HZ7.out HB4.out) (fun e => by have := HLT.out _ e; omega)); clear e1; have e1 := cell_rowK (k := 1) (v := .int .i64 0) HZ8.out rfl; clear hown7 hA7 e2 e3 e4))
        have h7 := H7.out
        rw [HW4.out] at h7

        have HON : Hid (OnceI c b w3.heap.size w (x.toNat + 1) (.slice (some ⟨g7, 0, none⟩) (T.length + 1) cap7) w7_) := Lib.hid (by
          have hnb : ∀ k, (Value.slice A1 n1 d1).ownBlock = some k → w3.heap.size ≤ k := fun k hk => (World.ownsRow.lt HF4.out.row k hk).1
          refine ⟨⟨_, _, HF4.out.brd.appT h7.2 (fun k hk => by have h1 := hnb k hk; have := HBC.out; omega), by omega, fun q hq => ?_, ?_⟩, Bag.below_app HF4.out.bel (fun k hk => by have h1 := hnb k hk; have := HBC.out; omega) h7.2, Nat.le_trans HF4.out.lo (appT_size h7.2)⟩
          · rcases List.mem_append.1 hq with h | h
            · exact HRT.out q h
            · rw [List.mem_singleton.1 h]; exact HR.out
          · rw [List.map_append, HTL.out, List.length_append, HTP.out, List.flatMap_append]
            simpa using h7.1)
        clear h7
        go_roundw
        case measure => simp [intOf]; omega
        case rel =>
          refine ⟨x + 1, rfl, by omega, by omega, Lib.hid ?_⟩
          rw [show (x + 1).toNat = x.toNat + 1 by omega]
          exact HON.out
    · by_cases cw1 : wh = 1
      · subst cw1
        have hwh : ((1 : Int) == 0) = false := rfl
        have KF := fire_calls HBR1.out hcb HRT.out ck cp (by omega) (fun W ho => HTB.out W (ho.from HBW.out (fun k hk => by have := HBC.out; omega)))
        rw [told_hit, HTL.out] at KF
        obtain ⟨G, hG⟩ : ∃ g, T.filter (hitB ck cp) = g := ⟨_, rfl⟩
        rw [hG] at KF
        have HG := Lib.hid hG
        have KF := Lib.hid KF
        rw [← hW1] at e1 e2 e3 e4 e5 e6
        clear hW1 hG
        go_wp2_with fail
        rw [HWR.out] at e1 e2 e3 e4 e5 e6 ⊢
        refine KF.out.mono ?_
        rintro e w5 ⟨vF, rfl, hF5, hbr5, ho5⟩
        have hne : ∀ j, wr.heap.size ≤ j → ¬ (j = b) := fun j hj => by have := HBC.out; have := HA.out.lo; omega
        have HZ5 := Lib.hid (ho5.blk HZ1.out (hne _ (Nat.le_refl _)))
        have HBR5 := Lib.hid hbr5
        have HB5 := Lib.hid (ho5.from HBW.out (fun k hk => by have := HBC.out; omega))
        have HOWN5 := Lib.hid (own_only HOWN1.out ho5 (fun k hk => by have := HBC.out; omega))
        have hsz5 : wr.heap.size < w5.heap.size := (Array.getElem?_eq_some_iff.1 HZ5.out).1
        have HLO5 : Hid (w3.heap.size ≤ w5.heap.size) := Lib.hid (by have := HA.out.lo; omega)
        obtain ⟨AF, capF, hvF, hAF, hcF⟩ : ∃ A cap, vF = .slice A G.length cap ∧ (0 < G.length → ∃ g, A = some ⟨g, 0, none⟩) ∧ G.length ≤ cap := by
          rcases hF5.2 with ⟨h1, h2⟩ | ⟨g, cap, cur, h1, _, _, h2, _⟩
          · exact ⟨none, 0, by rw [h1, h2], fun h => by omega, by omega⟩
          · exact ⟨_, cap, h1, fun _ => ⟨g, rfl⟩, h2⟩
        subst hvF
        have HAF := Lib.hid hAF
        have HF5 := Lib.hid hF5
        obtain ⟨n2, hn2⟩ : ∃ n, G.length = n := ⟨_, rfl⟩
        have HN2 := Lib.hid hn2
        have hn264 : n2 ≤ 64 := by
          have h1 := List.length_filter_le (hitB ck cp) T
          rw [HG.out, HN1.out, hn2] at h1
          omega
        rw [hn2] at hcF ⊢
        clear KF hbr5 ho5 o0 o1 o2 o3 o4 o5 o6 e1 e2 e3 e4 e5 e6 HWR hne HBR1 HOWN1 hF5 hAF hn2
        have e5 : w5.cell? ⟨wr.heap.size, 5, none⟩ = _ := cell_rowK (k := 5) (v := .int .i8 ck) HZ5.out rfl
        have e6 : w5.cell? ⟨wr.heap.size, 6, none⟩ = _ := cell_rowK (k := 6) (v := .string cp) HZ5.out rfl
        have KI := isChange_calls ck cp w5 (by omega)
        obtain ⟨ch, hch⟩ : ∃ r, changeB ck cp = r := ⟨_, rfl⟩
        rw [hch] at KI
        have HCH := Lib.hid hch
        have KI := Lib.hid KI
        clear hch
        go_wp2_with fail
        refine KI.out.mono ?_
        rintro e ws ⟨rfl, hB⟩
        have HZ6 := Lib.hid (blkK HZ5.out hB)
        have HBR6 := Lib.hid (HBR5.out.below hB)
        have HB6 := Lib.hid (below_step HB5.out hB)
        have HOWN6 := Lib.hid (own_move HOWN5.out fun k hk => hB.block k (World.ownsRow.lt HOWN5.out k hk).2)
        have HF6 := Lib.hid (own_move HF5.out fun k hk => hB.block k (World.ownsRow.lt HF5.out k hk).2)
        have HLO6 : Hid (w3.heap.size ≤ ws.heap.size) := Lib.hid (Nat.le_trans HLO5.out hB.size)
        have hC6 : Kd.C k30 ws A1 T.length T := by
          obtain ⟨A, c', e, h, hC⟩ := row_CW (base := w3.heap.size) (v := .slice A1 n1 d1) (xs := T) HOWN6.out
          cases e
          exact hC
        have HC6 := Lib.hid hC6
        have HLI0 : Hid (LeftI ws T (staysB ck cp) 0 (.slice none 0 0) ws) := Lib.hid ⟨Below.refl _ _, World.ownsRow_nil _ _ _ _⟩
        clear KI hB e5 e6 HZ5 HBR5 HB5 HOWN5 HLO5 HF5 hC6
        go_wp2_with fail
        go_loopw [14, 15, 16] (fun vl vn vz wz => ∃ (z : Int) (n : Nat), vz = .int .i64 z ∧ 0 ≤ z ∧ z ≤ (n1 : Int) ∧ vn = .int .i64 n ∧ Hid (n = ((T.take z.toNat).filter (hitB ck cp)).length) ∧ Hid (LeftI ws T (staysB ck cp) z.toNat vl wz)) (fun _ _ vz _ => ((n1 : Int) - intOf vz).toNat)
        case atStart => exact ⟨0, 0, rfl, by omega, by omega, rfl, Lib.hid rfl, HLI0⟩
        case round =>
        clear HLI0
        obtain ⟨z, n, rfl, z0, zn, rfl, HNM, HL⟩ := hrel
        obtain ⟨vl, hvl⟩ := HL.out.val
        subst hvl
        by_cases c3 : z < (n1 : Int)
        · have q3 : decide (z < (n1 : Int)) = true := decide_eq_true c3
          have hz : z.toNat < T.length := by rw [HN1.out]; omega
          obtain ⟨ad1, eA1, o0, o1, o2⟩ := Pr.at_T30 (Kd.C_below HC6.out HL.out.bel) z z0 (by rw [HN1.out]; exact c3)
          have hrd : rd_T30 T z = T[z.toNat] := by simp [rd_T30, List.getD, List.getElem?_eq_getElem hz]
          rw [hrd] at o0 o1 o2
          obtain ⟨y2, hy2⟩ : ∃ y, T[z.toNat] = y := ⟨_, rfl⟩
          rw [hy2] at o0 o1 o2
          have HY2 := Lib.hid hy2
          subst eA1
          have hry : rightB y2 = true := by
            have h1 : y2 ∈ P.map Prod.fst := by rw [HTL.out, ← hy2]; exact List.getElem_mem _
            obtain ⟨q, hq, e⟩ := List.mem_map.1 h1
            rw [← e]
            exact HRT.out q hq
          have hk2 : kindB y2 = true ∧ y2.f2.size ≤ 64 := by
            unfold rightB at hry
            rw [Bool.and_eq_true] at hry
            exact ⟨hry.1, path_small hry.2⟩
          have HK2 := Lib.hid hk2
          obtain ⟨a2, k2, p2⟩ := y2
          simp only at o0 o1 o2
          have z0' := eq_true z0
          have c3' := eq_true c3
          have HSB := Lib.hid (And.intro (pw_cell_below HL.out.bel (cell_rowK (k := 5) (v := .int .i8 ck) HZ6.out rfl)) (pw_cell_below HL.out.bel (cell_rowK (k := 6) (v := .string cp) HZ6.out rfl)))
          have HSZ := Lib.hid (And.intro o0 (And.intro o1 o2))
          obtain ⟨mm, hmm⟩ : ∃ v, metB ck cp ⟨a2, k2, p2⟩ = v := ⟨_, rfl⟩
          have HMM := Lib.hid hmm
          clear hrd hy2 hry hk2 hmm
          cases ch with
          | false =>
            have HHIT : Hid (hitB ck cp ⟨a2, k2, p2⟩ = false) := Lib.hid (by unfold hitB; rw [HCH.out]; rfl)
            have HSTAY : Hid (staysB ck cp ⟨a2, k2, p2⟩ = true) := Lib.hid (by unfold staysB; rw [HHIT.out]; rfl)
            have HNX : Hid (n = ((T.take (z.toNat + 1)).filter (hitB ck cp)).length) := Lib.hid (by rw [filter_next _ _ _ hz, HY2.out, HHIT.out, ← HNM.out]; rfl)

            go_wp2_with fail
            refine wp_region_quiet_below (by kernel_rfl) (by kernel_rfl) ?_
            repeat (go_big_quiet_step (fail))
            refine wpQuiet_nil ?_
            intro _ hw'
            obtain ⟨⟨dq, osq⟩, hw''⟩ := hw'
            subst hw''
            have HL2 := Lib.hid (HL.out.below (below_regrown wr dq osq))
            have HSW7 := Lib.hid (And.intro (pw_cell_below (below_regrown wr dq osq) HSZ.out.1) (And.intro (pw_cell_below (below_regrown wr dq osq) HSZ.out.2.1) (pw_cell_below (below_regrown wr dq osq) HSZ.out.2.2)))
            obtain ⟨W7, hW7⟩ : ∃ V, Go.Sort.grow (redrawn wr dq) osq = V := ⟨_, rfl⟩
            rw [hW7] at HL2 HSW7
            simp only [hW7]
            clear hW7 o0 o1 o2

            go_wp2_with fail
            refine wp_region_quiet_below (by kernel_rfl) (by kernel_rfl) ?_
            repeat (go_big_quiet_step (fail))
            refine wpQuiet_nil ?_
            intro _ hw'
            obtain ⟨⟨dq, osq⟩, hw''⟩ := hw'
            subst hw''
            have HL3 := Lib.hid (HL2.out.below (below_regrown W7 dq osq))
            have HSW8 := Lib.hid (And.intro (pw_cell_below (below_regrown W7 dq osq) HSW7.out.1) (And.intro (pw_cell_below (below_regrown W7 dq osq) HSW7.out.2.1) (pw_cell_below (below_regrown W7 dq osq) HSW7.out.2.2)))
            obtain ⟨W8, hW8⟩ : ∃ V, Go.Sort.grow (redrawn W7 dq) osq = V := ⟨_, rfl⟩
            rw [hW8] at HL3 HSW8
            simp only [hW8]
            clear hW8 

            have o0 := HSW8.out.1
            have o1 := HSW8.out.2.1
            have o2 := HSW8.out.2.2
            clear HL HL2 HSW7

            have hn64 : ((T.take z.toNat).filter (staysB ck cp)).length ≤ 64 := by
              have h1 := List.length_filter_le (staysB ck cp) (T.take z.toNat)
              rw [List.length_take] at h1
              have h2 := HN1.out
              omega

            have HL64 := Lib.hid hn64
            obtain ⟨W4, hW4⟩ : ∃ V, W8.alloc (.cells #[Value.int .i64 a2, Value.int .i8 k2, Value.string p2] 30) = V := ⟨_, rfl⟩
            have hB4 : Below W8.heap.size W8 W4 := by rw [← hW4]; exact below_alloc (Below.refl _ _) _
            have hz4 := World.alloc_heap_new W8 (.cells #[Value.int .i64 a2, Value.int .i8 k2, Value.string p2] 30)
            rw [hW4] at hz4
            have HF4 := Lib.hid (HL3.out.below hB4)
            have HOW := Lib.hid HF4.out.row
            have HNW := Lib.hid (World.news_of_block hz4)
            have HBS4 : Hid (ws.heap.size ≤ W4.heap.size) := Lib.hid HF4.out.bel.size
            have HB4 := Lib.hid hB4
            have ho1 : ∀ u ∈ [Value.int .i64 a2, Value.int .i8 k2, Value.string p2], u.oneCell' = true := by simp [Value.oneCell']
            have HO1 := Lib.hid ho1
            rw [← hW4] at HOW HNW HBS4
            have HW4 := Lib.hid hW4
            clear hB4 hz4 ho1 hW4
            go_wp2_with (first | (at_builtin; refine wpList_app rfl (.tmp 146) (.tmp 151) 27 rfl 30 iW _ 3 32 Tryd.underlying27 HI.out.1 HI.out.2.1 HI.out.2.2.1 HI.out.2.2.2 rfl (by decide) ws.heap.size _ _ _ rfl HOW.out ⟨W8.heap.size, 0, none⟩ 1 [Value.int .i64 a2, Value.int .i8 k2, Value.string p2] rfl rfl HNW.out HO1.out (by have := HL64.out; unfold maxLen; omega) (by have := HL64.out; omega) HBS4.out ?_; intro g7 cap7 w7 hown7 hA7; have H7 := Lib.hid (And.intro hown7 hA7); clear hown7 hA7 o0 o1 o2))
            have h7 := H7.out
            rw [HW4.out] at h7

            have HN8 := Lib.hid (HF4.out.put hz (by rw [HY2.out]; exact HSTAY.out) (by have h8 := h7.1; rw [HY2.out]; exact h8) h7.2)
            clear h7
            go_wp2
            go_roundw
            case measure => simp [intOf]; omega
            case rel =>
              refine ⟨z + 1, n, rfl, by omega, by omega, rfl, Lib.hid ?_, Lib.hid ?_⟩
              · rw [show (z + 1).toNat = z.toNat + 1 by omega]; exact HNX.out
              · rw [show (z + 1).toNat = z.toNat + 1 by omega]; exact HN8.out
          | true =>
            have k1 : ∀ dd os, Calls Tryd.prog 14 #[.agg #[.int .i8 ck, .string cp], .agg #[.int .i64 a2, .int .i8 k2, .string p2]] (Go.Sort.grow (redrawn wr dd) os) fun e w'' => e = .returned (.bool mm) ∧ ∃ p : Regrown, w'' = Go.Sort.grow (redrawn wr p.d) p.os := fun dd os => Calls.regrown_of (by
              have h1 := meets_calls ck cp ⟨a2, k2, p2⟩ (Go.Sort.grow (redrawn wr dd) os) (by omega) (by have := HK2.out.2; omega) HK2.out.1
              rw [HMM.out] at h1
              exact h1)
            have g0 := cell_regrown o0
            have g1 := cell_regrown o1
            have g2 := cell_regrown o2
            have g5 := cell_regrown HSB.out.1
            have g6 := cell_regrown HSB.out.2

            go_wp2_with fail
            refine wp_region_quiet_below (by kernel_rfl) (by kernel_rfl) ?_
            repeat (go_big_quiet_step (first | (with_reducible exact k1 _ _)))
            refine wpQuiet_nil ?_
            intro _ hw'
            obtain ⟨⟨dq, osq⟩, hw''⟩ := hw'
            subst hw''
            have HL2 := Lib.hid (HL.out.below (below_regrown wr dq osq))
            have HSW7 := Lib.hid (And.intro (pw_cell_below (below_regrown wr dq osq) HSZ.out.1) (And.intro (pw_cell_below (below_regrown wr dq osq) HSZ.out.2.1) (pw_cell_below (below_regrown wr dq osq) HSZ.out.2.2)))
            have HSB7 := Lib.hid (And.intro (pw_cell_below (below_regrown wr dq osq) HSB.out.1) (pw_cell_below (below_regrown wr dq osq) HSB.out.2))
            obtain ⟨W7, hW7⟩ : ∃ V, Go.Sort.grow (redrawn wr dq) osq = V := ⟨_, rfl⟩
            rw [hW7] at HL2 HSW7 HSB7
            simp only [hW7]
            clear hW7 g0 g1 g2 g5 g6 k1 o0 o1 o2

            cases mm with
            | false =>
              have HHIT : Hid (hitB ck cp ⟨a2, k2, p2⟩ = false) := Lib.hid (by unfold hitB; rw [HCH.out, HMM.out]; rfl)
              have HSTAY : Hid (staysB ck cp ⟨a2, k2, p2⟩ = true) := Lib.hid (by unfold staysB; rw [HHIT.out]; rfl)
              have HNX : Hid (n = ((T.take (z.toNat + 1)).filter (hitB ck cp)).length) := Lib.hid (by rw [filter_next _ _ _ hz, HY2.out, HHIT.out, ← HNM.out]; rfl)

              go_wp2_with fail
              refine wp_region_quiet_below (by kernel_rfl) (by kernel_rfl) ?_
              repeat (go_big_quiet_step (fail))
              refine wpQuiet_nil ?_
              intro _ hw'
              obtain ⟨⟨dq, osq⟩, hw''⟩ := hw'
              subst hw''
              have HL3 := Lib.hid (HL2.out.below (below_regrown W7 dq osq))
              have HSW8 := Lib.hid (And.intro (pw_cell_below (below_regrown W7 dq osq) HSW7.out.1) (And.intro (pw_cell_below (below_regrown W7 dq osq) HSW7.out.2.1) (pw_cell_below (below_regrown W7 dq osq) HSW7.out.2.2)))
              obtain ⟨W8, hW8⟩ : ∃ V, Go.Sort.grow (redrawn W7 dq) osq = V := ⟨_, rfl⟩
              rw [hW8] at HL3 HSW8
              simp only [hW8]
              clear hW8 

              have o0 := HSW8.out.1
              have o1 := HSW8.out.2.1
              have o2 := HSW8.out.2.2
              clear HL HL2 HSW7

              have hn64 : ((T.take z.toNat).filter (staysB ck cp)).length ≤ 64 := by
                have h1 := List.length_filter_le (staysB ck cp) (T.take z.toNat)
                rw [List.length_take] at h1
                have h2 := HN1.out
                omega

              have HL64 := Lib.hid hn64
              obtain ⟨W4, hW4⟩ : ∃ V, W8.alloc (.cells #[Value.int .i64 a2, Value.int .i8 k2, Value.string p2] 30) = V := ⟨_, rfl⟩
              have hB4 : Below W8.heap.size W8 W4 := by rw [← hW4]; exact below_alloc (Below.refl _ _) _
              have hz4 := World.alloc_heap_new W8 (.cells #[Value.int .i64 a2, Value.int .i8 k2, Value.string p2] 30)
              rw [hW4] at hz4
              have HF4 := Lib.hid (HL3.out.below hB4)
              have HOW := Lib.hid HF4.out.row
              have HNW := Lib.hid (World.news_of_block hz4)
              have HBS4 : Hid (ws.heap.size ≤ W4.heap.size) := Lib.hid HF4.out.bel.size
              have HB4 := Lib.hid hB4
              have ho1 : ∀ u ∈ [Value.int .i64 a2, Value.int .i8 k2, Value.string p2], u.oneCell' = true := by simp [Value.oneCell']
              have HO1 := Lib.hid ho1
              rw [← hW4] at HOW HNW HBS4
              have HW4 := Lib.hid hW4
              clear hB4 hz4 ho1 hW4
              go_wp2_with (first | (at_builtin; refine wpList_app rfl (.tmp 146) (.tmp 151) 27 rfl 30 iW _ 3 32 Tryd.underlying27 HI.out.1 HI.out.2.1 HI.out.2.2.1 HI.out.2.2.2 rfl (by decide) ws.heap.size _ _ _ rfl HOW.out ⟨W8.heap.size, 0, none⟩ 1 [Value.int .i64 a2, Value.int .i8 k2, Value.string p2] rfl rfl HNW.out HO1.out (by have := HL64.out; unfold maxLen; omega) (by have := HL64.out; omega) HBS4.out ?_; intro g7 cap7 w7 hown7 hA7; have H7 := Lib.hid (And.intro hown7 hA7); clear hown7 hA7 o0 o1 o2))
              have h7 := H7.out
              rw [HW4.out] at h7

              have HN8 := Lib.hid (HF4.out.put hz (by rw [HY2.out]; exact HSTAY.out) (by have h8 := h7.1; rw [HY2.out]; exact h8) h7.2)
              clear h7
              go_wp2
              go_roundw
              case measure => simp [intOf]; omega
              case rel =>
                refine ⟨z + 1, n, rfl, by omega, by omega, rfl, Lib.hid ?_, Lib.hid ?_⟩
                · rw [show (z + 1).toNat = z.toNat + 1 by omega]; exact HNX.out
                · rw [show (z + 1).toNat = z.toNat + 1 by omega]; exact HN8.out
            | true =>
              have HHIT : Hid (hitB ck cp ⟨a2, k2, p2⟩ = true) := Lib.hid (by unfold hitB; rw [HCH.out, HMM.out]; rfl)
              have HNX : Hid (n + 1 = ((T.take (z.toNat + 1)).filter (hitB ck cp)).length) := Lib.hid (by rw [filter_next _ _ _ hz, HY2.out, HHIT.out, ← HNM.out]; rfl)
              have hfa : G[n]? = some ⟨a2, k2, p2⟩ := by
                have h1 := filter_at (hitB ck cp) T z.toNat hz (by rw [HY2.out]; exact HHIT.out)
                rw [HG.out, ← HNM.out, HY2.out] at h1
                exact h1
              have hlt : n < n2 := by rw [← HN2.out]; exact (List.getElem?_eq_some_iff.1 hfa).1
              obtain ⟨gF, rfl⟩ := HAF.out (by rw [HN2.out]; omega)
              have hF7 := own_move HF6.out fun k hk => HL2.out.bel.block k (World.ownsRow.lt HF6.out k hk).2
              have hcellF : ∀ j, j < 5 → W7.cell? ⟨gF, n * 5 + j, none⟩ = (encF ck cp ⟨a2, k2, p2⟩)[j]? := fun j hj => by
                have hnG : n < G.length := by rw [HN2.out]; exact hlt
                have h1 := World.ownsRow.cellAt hF7 (n * 5 + j) (by omega)
                rw [h1, flat_getK (k := 5) (enc := encF ck cp) (fun _ => rfl) G n hnG j hj]
                have h2 : G[n] = ⟨a2, k2, p2⟩ := by rw [List.getElem?_eq_getElem hnG] at hfa; exact Option.some.inj hfa
                rw [h2]
              have r0 := cell_regrown (show W7.cell? ⟨gF, n * 5, none⟩ = some (.int .i64 a2) from hcellF 0 (by omega))
              have r1 := cell_regrown (show W7.cell? ⟨gF, n * 5 + 1, none⟩ = some (.int .i8 k2) from hcellF 1 (by omega))
              have r2 := cell_regrown (show W7.cell? ⟨gF, n * 5 + 2, none⟩ = some (.string p2) from hcellF 2 (by omega))
              have r3 := cell_regrown (show W7.cell? ⟨gF, n * 5 + 3, none⟩ = some (.int .i8 ck) from hcellF 3 (by omega))
              have r4 := cell_regrown (show W7.cell? ⟨gF, n * 5 + 4, none⟩ = some (.string cp) from hcellF 4 (by omega))
              have g0 := cell_regrown HSW7.out.1
              have g1 := cell_regrown HSW7.out.2.1
              have g2 := cell_regrown HSW7.out.2.2
              have g5 := cell_regrown HSB7.out.1
              have g6 := cell_regrown HSB7.out.2
              have b0 : (a2 == a2) = true := by simp
              have b1 : (k2 == k2) = true := by simp
              have b2 : (p2.toList == p2.toList) = true := by simp
              have b3 : (ck == ck) = true := by simp
              have b4 : (cp.toList == cp.toList) = true := by simp
              have q4 : decide ((n2 : Int) ≤ (n : Int)) = false := decide_eq_false (by omega)
              have q5 : ((n2 : Int) ≤ (n : Int)) = False := eq_false (by omega)
              have hlt2 : ((n : Int) < (n2 : Int)) = True := eq_true (by omega)
              have hn0 : ((0 : Int) ≤ (n : Int)) = True := eq_true (by omega)
              clear hfa hF7 hcellF

              go_wp2_with fail
              refine wp_region_quiet_below (by kernel_rfl) (by kernel_rfl) ?_
              repeat (go_big_quiet_step (fail))
              refine wpQuiet_nil ?_
              intro _ hw'
              obtain ⟨⟨dq, osq⟩, hw''⟩ := hw'
              subst hw''
              have HL3 := Lib.hid (HL2.out.below (below_regrown W7 dq osq))
              have HSW8 := Lib.hid (And.intro (pw_cell_below (below_regrown W7 dq osq) HSW7.out.1) (And.intro (pw_cell_below (below_regrown W7 dq osq) HSW7.out.2.1) (pw_cell_below (below_regrown W7 dq osq) HSW7.out.2.2)))
              obtain ⟨W8, hW8⟩ : ∃ V, Go.Sort.grow (redrawn W7 dq) osq = V := ⟨_, rfl⟩
              rw [hW8] at HL3 HSW8
              simp only [hW8]
              clear hW8 

              have o0 := HSW8.out.1
              have o1 := HSW8.out.2.1
              have o2 := HSW8.out.2.2
              have KG := goes_calls ⟨a2, k2, p2⟩ W8
              obtain ⟨gg, hgg⟩ : ∃ v, goesB ⟨a2, k2, p2⟩ = v := ⟨_, rfl⟩
              rw [hgg] at KG
              have HGG := Lib.hid hgg
              have KG := Lib.hid KG
              clear HL HL2 HSW7 HSB7 hgg g0 g1 g2 g5 g6 r0 r1 r2 r3 r4
              go_wp2_with fail
              refine KG.out.mono ?_
              rintro e w9 ⟨rfl, hB⟩
              have HL9 := Lib.hid (HL3.out.below hB)
              have HS9 := Lib.hid (And.intro (pw_cell_below hB HSW8.out.1) (And.intro (pw_cell_below hB HSW8.out.2.1) (pw_cell_below hB HSW8.out.2.2)))
              clear KG hB o0 o1 o2 HL3 HSW8
              cases gg with
              | true =>
                have HSTAY : Hid (staysB ck cp ⟨a2, k2, p2⟩ = false) := Lib.hid (by unfold staysB; rw [HHIT.out, HGG.out]; rfl)
                go_wp2
                go_roundw
                case measure => simp [intOf]; omega
                case rel =>
                  refine ⟨z + 1, n + 1, rfl, by omega, by omega, rfl, Lib.hid ?_, Lib.hid ?_⟩
                  · rw [show (z + 1).toNat = z.toNat + 1 by omega]; exact HNX.out
                  · rw [show (z + 1).toNat = z.toNat + 1 by omega]; exact HL9.out.skip hz (by rw [HY2.out]; exact HSTAY.out)
              | false =>
                have HSTAY : Hid (staysB ck cp ⟨a2, k2, p2⟩ = true) := Lib.hid (by unfold staysB; rw [HHIT.out, HGG.out]; rfl)
                have o0 := HS9.out.1
                have o1 := HS9.out.2.1
                have o2 := HS9.out.2.2

                have hn64 : ((T.take z.toNat).filter (staysB ck cp)).length ≤ 64 := by
                  have h1 := List.length_filter_le (staysB ck cp) (T.take z.toNat)
                  rw [List.length_take] at h1
                  have h2 := HN1.out
                  omega

                have HL64 := Lib.hid hn64
                obtain ⟨W4, hW4⟩ : ∃ V, w9.alloc (.cells #[Value.int .i64 a2, Value.int .i8 k2, Value.string p2] 30) = V := ⟨_, rfl⟩
                have hB4 : Below w9.heap.size w9 W4 := by rw [← hW4]; exact below_alloc (Below.refl _ _) _
                have hz4 := World.alloc_heap_new w9 (.cells #[Value.int .i64 a2, Value.int .i8 k2, Value.string p2] 30)
                rw [hW4] at hz4
                have HF4 := Lib.hid (HL9.out.below hB4)
                have HOW := Lib.hid HF4.out.row
                have HNW := Lib.hid (World.news_of_block hz4)
                have HBS4 : Hid (ws.heap.size ≤ W4.heap.size) := Lib.hid HF4.out.bel.size
                have HB4 := Lib.hid hB4
                have ho1 : ∀ u ∈ [Value.int .i64 a2, Value.int .i8 k2, Value.string p2], u.oneCell' = true := by simp [Value.oneCell']
                have HO1 := Lib.hid ho1
                rw [← hW4] at HOW HNW HBS4
                have HW4 := Lib.hid hW4
                clear hB4 hz4 ho1 hW4
                go_wp2_with (first | (at_builtin; refine wpList_app rfl (.tmp 146) (.tmp 151) 27 rfl 30 iW _ 3 32 Tryd.underlying27 HI.out.1 HI.out.2.1 HI.out.2.2.1 HI.out.2.2.2 rfl (by decide) ws.heap.size _ _ _ rfl HOW.out ⟨w9.heap.size, 0, none⟩ 1 [Value.int .i64 a2, Value.int .i8 k2, Value.string p2] rfl rfl HNW.out HO1.out (by have := HL64.out; unfold maxLen; omega) (by have := HL64.out; omega) HBS4.out ?_; intro g7 cap7 w7 hown7 hA7; have H7 := Lib.hid (And.intro hown7 hA7); clear hown7 hA7 o0 o1 o2))
                have h7 := H7.out
                rw [HW4.out] at h7

                have HN8 := Lib.hid (HF4.out.put hz (by rw [HY2.out]; exact HSTAY.out) (by have h8 := h7.1; rw [HY2.out]; exact h8) h7.2)
                clear h7
                go_wp2
                go_roundw
                case measure => simp [intOf]; omega
                case rel =>
                  refine ⟨z + 1, n + 1, rfl, by omega, by omega, rfl, Lib.hid ?_, Lib.hid ?_⟩
                  · rw [show (z + 1).toNat = z.toNat + 1 by omega]; exact HNX.out
                  · rw [show (z + 1).toNat = z.toNat + 1 by omega]; exact HN8.out
        · have q3 : decide (z < (n1 : Int)) = false := decide_eq_false c3
          have hzn : z.toNat = T.length := by rw [HN1.out]; omega
          have hE : n = n2 := by rw [HNM.out, hzn, List.take_length, HG.out, HN2.out]
          subst hE
          have HON : Hid (OnceI c b w3.heap.size w (x.toNat + 1) vl wr) := Lib.hid (by
            have h1 := HL.out
            rw [hzn] at h1
            have h2 := h1.row
            rw [List.take_length, ← HTL.out, ← left_stays] at h2
            rw [List.length_map] at h2
            exact ⟨⟨_, _, HBR6.out.below h1.bel, by omega, fun q hq => HRT.out q (left_sub ck cp P q hq), own_lower h2 HLO6.out⟩, below_step HB6.out h1.bel, Nat.le_trans HLO6.out h1.bel.size⟩)
          clear hzn HNM HL
          go_wp2
          go_roundw
          case measure => simp [intOf]; omega
          case rel =>
            refine ⟨x + 1, rfl, by omega, by omega, Lib.hid ?_⟩
            rw [show (x + 1).toNat = x.toNat + 1 by omega]
            exact HON.out
      · have HON := Lib.hid (HA.out.step HB1'.out)
        have t0 : (wh == 0) = false := by simpa using cw0
        have t1 : (wh == 1) = false := by simpa using cw1
        rw [← hW1] at e1
        clear hW1 e2 e3 e4 e5 e6
        go_wp2
        rw [HWR.out]
        go_roundw
        case measure => simp [intOf]; omega
        case rel =>
          refine ⟨x + 1, rfl, by omega, by omega, Lib.hid ?_⟩
          rw [show (x + 1).toNat = x.toNat + 1 by omega]
          exact HON.out
  · have q2 : decide (x < (N : Int)) = false := decide_eq_false c2
    have HBF := Lib.hid HA.out.bel
    have KA := Lib.hid (all_calls HBR.out hcb)
    clear HA
    go_wp2_with fail
    refine KA.out.mono ?_
    rintro e w4 ⟨vB, rfl, hownB, hB⟩
    have HB4 := Lib.hid (below_step HBF.out hB)
    obtain ⟨A2, d2, hv2, hd2, hC2⟩ := row_CW (base := wr.heap.size) (v := vB) (xs := P.map Prod.fst) (by unfold Row; rw [List.length_map]; exact hownB)
    have hC1 := Kd.C_below HC1.out hB
    rw [HTL.out] at hv2 hd2 hC2
    have KE := Pr.lagoonref00_EqWatches.calls _ A2 d2 T A1 d1 T true w4 hC2 hd2 hC1 (by rw [HN1.out]; exact hd1) (eqWatches_f T (by rw [HN1.out]; omega))
    rw [HN1.out] at KE hv2
    subst hv2
    have KE := Lib.hid KE
    clear hownB hB KA hC1 hC2
    go_wp2_with fail
    refine KE.out.mono ?_
    rintro e w5 ⟨rfl, hB⟩
    have HB5 := Lib.hid (below_step HB4.out (show Below w4.heap.size w4 w5 by first | exact hB | exact hB.below))
    clear hB KE
    go_wp2
    go_ret
    exact ⟨rfl, HB5.out⟩
end Go.Proofs.YtkhnjckkjdldbaaDoor.Q
