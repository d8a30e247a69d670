import Derived.Test.YtkmpbnicofiehaaR
namespace Go.Proofs.Ytkmpbnicofiehaa.Q
open Go.RowKit Go.Proofs.YtkmpbnicofiehaaW.PrintWords Go.Deep Go.Maps Go.WideShapes
set_option linter.unusedVariables false
set_option linter.unusedSimpArgs false
attribute [local go_sem] Oper.semAt_some

/-! A SESSION ENDS ONCE -/
/-- a slice of calls: their ids and time-outs -/
def RdO (w : World) (A : Option Addr) (os : List (Int × Int)) : Prop := os.length ≤ 9223372036854775807 ∧ (0 < os.length → ∃ b o, A = some ⟨b, o, none⟩ ∧ ∀ i, i < os.length → (Lit.int .i64 (os.getD i (0, 0)).1).wf = true ∧ w.cell? ⟨b, o + i * 5 + 2, none⟩ = some (.int .i64 (os.getD i (0, 0)).1) ∧ w.cell? ⟨b, o + i * 5 + 3, none⟩ = some (.int .i32 (os.getD i (0, 0)).2))
theorem RdO.below {w w' : World} {A : Option Addr} {os : List (Int × Int)} (h : RdO w A os) (hB : Below w.heap.size w w') : RdO w' A os :=
  ⟨h.1, fun hp => by obtain ⟨b, o, ha, hc⟩ := h.2 hp; exact ⟨b, o, ha, fun i hi => ⟨(hc i hi).1, pw_cell_below hB (hc i hi).2.1, pw_cell_below hB (hc i hi).2.2⟩⟩⟩
/-- a clock with whatever sessions, on the way -/
structure Cl (c b s : Nat) (span now : Int) (n : Nat) (w0 w : World) : Prop where
  clk : ∃ (D : DataW Unit) (m : Nat), m ≤ n ∧ IsMap D ∧ Clk c b s now span m D w
  below : Below w0.heap.size w0 w
  cb : w0.heap.size ≤ c ∧ w0.heap.size ≤ b
  span : 1 ≤ span ∧ span ≤ 1000
theorem cl_add {c b s n : Nat} {span now : Int} {w0 w : World} (id t : Int) (h : Cl c b s span now n w0 w) (n0 : 0 ≤ now) (n1 : now ≤ 100000) (hn : n < 60) (hi0 : (Lit.int .i64 id).wf = true) :
    Calls Try.prog 10 #[.pointer (some ⟨c, 0, none⟩), .int .i64 id, .int .i32 t] w fun e w' => (∃ r : Int, e = .returned (.int .i64 r)) ∧ Cl c b s span now (n + 1) w0 w' := by
  obtain ⟨D, m, hm, hM, hC⟩ := h.clk
  refine (add_any id t hC hM h.span.1 h.span.2 n0 n1 (by omega) hi0).mono ?_
  rintro e w' ⟨hr, ⟨D', m', hm', hM', hC'⟩, hO⟩
  exact ⟨hr, ⟨D', m', by omega, hM', hC'⟩, hO.from h.below (fun k e => by have := h.cb; omega), h.cb, h.span⟩
theorem cl_tick {c b s : Nat} {span now : Int} {w0 w : World} (h : Cl c b s span now 0 w0 w) (n0 : 0 ≤ now) (n1 : now ≤ 100000) :
    Calls Try.prog 9 #[.pointer (some ⟨c, 0, none⟩)] w fun e w' => (∃ v, e = .returned v) ∧ Cl c b s span (now + 1) 0 w0 w' := by
  obtain ⟨D, m, hm, hM, hC⟩ := h.clk
  refine (tick_calls hC h.span.1 n0 (by omega) (by omega) (Nat.le_refl m) (sort_all m (by omega))).mono ?_
  rintro e w' ⟨v, ys, rfl, hrow, hso, hnd, hmem, hC, hO⟩
  exact ⟨⟨v, rfl⟩, ⟨_, m, hm, isMap_dels hM _, hC⟩, hO.from h.below (fun k e => by have := h.cb; have := h.below.size; omega), h.cb, h.span⟩
/-- the session that is looked at begins -/
theorem cl_begin {c b s n : Nat} {span now : Int} {w0 w : World} (id t : Int) (h : Cl c b s span now n w0 w) (n0 : 0 ≤ now) (n1 : now ≤ 100000) (hn : n < 60) (i0 : 1 ≤ id) (t0 : 1 ≤ t) (t1 : t ≤ 1000) (hi0 : (Lit.int .i64 id).wf = true) :
    Calls Try.prog 10 #[.pointer (some ⟨c, 0, none⟩), .int .i64 id, .int .i32 t] w fun e w' => e = .returned (.int .i64 0) ∧ ∃ (D : DataW Unit) (m : Nat), m ≤ 60 ∧ Ev c b s span id t now now m false D w0 w' := by
  obtain ⟨D, m, hm, hM, hC⟩ := h.clk
  refine (add_calls id t hC h.span.1 h.span.2 n0 (by omega) i0 t0 t1 (by omega) hi0).mono ?_
  rintro e w' ⟨rfl, hC, hO⟩
  have hr := round_le (tick := now + t) h.span.1 (by omega)
  exact ⟨rfl, _, m + 1, by omega, hC, hO.from h.below (fun k e => by have := h.cb; omega), h.cb, ⟨n0, Int.le_refl _⟩, fun _ => ⟨by rw [look_put hM, if_pos rfl], by omega⟩, (fun h => by cases h), h.span, ⟨t0, t1⟩, hi0⟩
theorem cl_bad {c b s n : Nat} {span now : Int} {w0 w : World} (id t : Int) (h : Cl c b s span now n w0 w) (hb : id < 1 ∨ t < 1 ∨ 1000 < t) :
    Calls Try.prog 10 #[.pointer (some ⟨c, 0, none⟩), .int .i64 id, .int .i32 t] w fun e w' => e = .returned (.int .i64 1) ∧ w' = w := by
  obtain ⟨D, m, hm, hM, hC⟩ := h.clk
  exact add_bad id t hC h.span.1 hb
theorem few_le (n : Int) : 1 ≤ (if n < 1 then 1 else if 40 < n then 40 else n) ∧ (if n < 1 then 1 else if 40 < n then 40 else n) ≤ 40 := by
  split
  · omega
  · split <;> omega
/-! counting -/
def cntI (id : Int) (ys : List Int) (j : Nat) : Int := if id ∈ ys.take j then 1 else 0
theorem cnt_yes {id : Int} {ys : List Int} {j : Nat} (hs : ys.Pairwise (· < ·)) (h : ys[j]? = some id) : cntI id ys (j + 1) = cntI id ys j + 1 := by
  have hj : j < ys.length := (List.getElem?_eq_some_iff.1 h).1
  have h1 : id ∈ ys.take (j + 1) := by rw [List.take_add_one, h]; simp
  have h2 : id ∉ ys.take j := fun hm => by
    obtain ⟨i, hi, he⟩ := List.mem_iff_getElem.1 hm
    rw [List.length_take] at hi
    rw [List.getElem_take] at he
    have := List.pairwise_iff_getElem.1 hs i j (by omega) hj (by omega)
    rw [he, (List.getElem?_eq_some_iff.1 h).2] at this
    omega
  unfold cntI
  rw [if_pos h1, if_neg h2]; rfl
theorem cnt_no {id x : Int} {ys : List Int} {j : Nat} (h : ys[j]? = some x) (hx : x ≠ id) : cntI id ys (j + 1) = cntI id ys j := by
  unfold cntI
  rw [List.take_add_one, h]
  simp [Ne.symm hx]
theorem cnt_end {id : Int} {ys : List Int} {span t at_ now : Int} {told : Bool} (h : Told span id t at_ now told ys) : (if told = true then (1 : Int) else 0) + cntI id ys ys.length = if (told || decide (id ∈ ys)) = true then 1 else 0 := by
  unfold cntI
  rw [List.take_length]
  by_cases hm : id ∈ ys
  · have := (h.first hm).1; subst this; simp [hm]
  · simp [hm]
theorem told_lt {span id t at_ now : Int} {told : Bool} {ys : List Int} (h : Told span id t at_ now told ys) {j : Nat} {x y : Int} (h1 : ys[j]? = some x) (h2 : ys[j + 1]? = some y) : x < y := by
  have := List.pairwise_iff_getElem.1 h.sorted j (j + 1) (List.getElem?_eq_some_iff.1 h1).1 (List.getElem?_eq_some_iff.1 h2).1 (by omega)
  rwa [(List.getElem?_eq_some_iff.1 h1).2, (List.getElem?_eq_some_iff.1 h2).2] at this
set_option maxRecDepth 100000 in
set_option maxHeartbeats 16000000 in
/-- up to the session's own Add -/
theorem ends_yes (span ahead id t : Int) (A : Option Addr) (ca : Nat) (os : List (Int × Int)) (w : World) (hA : RdO w A os) (h1 : 1 ≤ span) (h2 : span ≤ 1000) (i0 : 1 ≤ id) (hi0 : (Lit.int .i64 id).wf = true) (t0 : 1 ≤ t) (t1 : t ≤ 1000) :
    Calls Try.prog 3 #[.int .i64 span, .int .i64 ahead, .int .i64 id, .int .i32 t, .slice A os.length ca] w fun e w' => e = .returned (.bool true) ∧ Below w.heap.size w w' := by
  have K1 := Lib.hid (works_calls w)
  have KF := Lib.hid (few_calls ahead)
  obtain ⟨F, hF⟩ : ∃ F, (if ahead < 1 then 1 else if 40 < ahead then 40 else ahead) = F := ⟨_, rfl⟩
  have hF01 := few_le ahead
  rw [hF] at KF hF01
  obtain ⟨hF0, hF1⟩ := hF01
  have HA := Lib.hid hA
  obtain ⟨L, hL⟩ : ∃ L, os.length = L := ⟨_, rfl⟩
  have hl := hA.1
  rw [hL] at hl
  have HL := Lib.hid hL
  rw [hL]
  clear hA hL hF
  go_enter Try.func3, Try.ntmps3
  go_wp2_with fail
  refine K1.out.mono ?_
  rintro e w1 ⟨rfl, hB⟩
  have HB1 := Lib.hid hB
  clear hB
  go_wp2_with fail
  refine (new_calls span w1 h1 h2).mono ?_
  rintro e w2 ⟨c, b, s, rfl, hC, hB, hb, hc⟩
  have HB2 := Lib.hid (below_step HB1.out hB)
  have hcb : w.heap.size ≤ c ∧ w.heap.size ≤ b := by have := HB1.out.size; omega
  have HC := Lib.hid (show Cl c b s span ((0 : Nat) : Int) 0 w w2 from ⟨⟨_, 0, Nat.le_refl _, isMap_empty, hC⟩, HB2.out, hcb, ⟨h1, h2⟩⟩)
  clear hC hB hb hc hcb
  go_wp2_with fail
  go_loopw [14] (fun vi wr => ∃ k : Nat, (k : Int) ≤ F ∧ vi = .int .i64 k ∧ Hid (Cl c b s span k 0 w wr)) (fun vi _ => 40 - (intOf vi).toNat)
  case atStart => exact ⟨0, by omega, rfl, HC⟩
  case round =>
    obtain ⟨k, hk, rfl, HI⟩ := hrel
    by_cases hlt : (k : Int) < F
    · have q1 : decide ((k : Int) < F) = true := decide_eq_true hlt
      have KT := Lib.hid (cl_tick HI.out (by omega) (by omega))
      go_wp2_with fail
      refine (KF.out wr).mono ?_
      rintro e w5 ⟨rfl, rfl⟩
      go_wp2_with fail
      refine KT.out.mono ?_
      rintro e w6 ⟨⟨v6, rfl⟩, hV⟩
      have HV := Lib.hid (show Cl c b s span ((k + 1 : Nat) : Int) 0 w w6 by rw [show ((k + 1 : Nat) : Int) = (k : Int) + 1 by omega]; exact hV)
      clear hV
      go_wp2
      exact ⟨⟨k + 1, by omega, by go_num, HV⟩, by simp [intOf]; omega⟩
    · have q1 : decide ((k : Int) < F) = false := decide_eq_false hlt
      go_wp2_with fail
      refine (KF.out wr).mono ?_
      rintro e w5 ⟨rfl, rfl⟩
      go_wp2_with fail
      obtain ⟨N, hN, hN0, hN1⟩ : ∃ N : Int, (k : Int) = N ∧ 0 ≤ N ∧ N ≤ 40 := ⟨_, rfl, by omega, by omega⟩
      rw [hN] at HI
      clear hN
      go_loopw [15] (fun vi wq => ∃ j : Nat, j ≤ L ∧ j ≤ 30 ∧ vi = .int .i64 j ∧ Hid (Cl c b s span N j w wq)) (fun vi _ => L - (intOf vi).toNat)
      case atStart => exact ⟨0, by omega, by omega, rfl, HI⟩
      case round =>
        obtain ⟨j, hj, hj30, rfl, HJ⟩ := hrel
        by_cases hlt1 : j < L
        · have r1 : decide (j < L) = true := decide_eq_true hlt1
          by_cases hlt2 : (j : Int) < 30
          · have r2 : decide ((j : Int) < 30) = true := decide_eq_true hlt2
            obtain ⟨bo, oo, ha, hcell⟩ := HA.out.2 (by have := HL.out; omega)
            subst ha
            have c1 := hcell j (by have := HL.out; omega)
            obtain ⟨x, hx⟩ : ∃ x, os.getD j (0, 0) = x := ⟨_, rfl⟩
            rw [hx] at c1
            obtain ⟨xi, xt⟩ := x
            obtain ⟨cw, c2, c3⟩ := c1
            have c2 := pw_cell_below HJ.out.below c2
            have c3 := pw_cell_below HJ.out.below c3
            clear hcell hx
            by_cases hxe : xi = id
            · have r3 : (xi != id) = false := by rw [bne_eq_false_iff_eq]; exact hxe
              have HX := Lib.hid hxe
              clear hxe
              go_wp2
              exact ⟨⟨j + 1, by omega, by omega, by go_num, Lib.hid ⟨by obtain ⟨D, m, hm, r⟩ := HJ.out.clk; exact ⟨D, m, by omega, r⟩, HJ.out.below, HJ.out.cb, HJ.out.span⟩⟩, by simp [intOf]; omega⟩
            · have r3 : (xi != id) = true := bne_iff_ne.2 hxe
              have KA := Lib.hid (fun wd (hB : Below wr.heap.size wr wd) => cl_add xi xt (show Cl c b s span N j w wd from ⟨by obtain ⟨D, m, hm, hM, hC⟩ := HJ.out.clk; exact ⟨D, m, hm, hM, hC.below hB⟩, below_step HJ.out.below hB, HJ.out.cb, HJ.out.span⟩) hN0 (by omega) (by omega) cw)
              clear hxe
              go_wp2_with fail
              go_still_tail 11, (by kernel_rfl)
              change wpList _ _ _ _ _ (World.drew wr)
              clear c2 c3
              go_wp2_with fail
              refine (KA.out _ (Below.refl _ wr).drew).mono ?_
              rintro e w6 ⟨⟨r6, rfl⟩, hV⟩
              have HV := Lib.hid hV
              clear hV
              go_wp2
              exact ⟨⟨j + 1, by omega, by omega, by go_num, HV⟩, by simp [intOf]; omega⟩
          · have r2 : decide ((j : Int) < 30) = false := decide_eq_false hlt2
            clear hj
            have KB := Lib.hid (cl_begin id t HJ.out hN0 (by omega) (by omega) i0 t0 t1 hi0)
            go_wp2_with fail
            refine KB.out.mono ?_
            rintro e w5 ⟨rfl, D0, m, hm60, hE⟩
            have HE0 := Lib.hid (show Ev c b s span id t N (N + 1 - 1) m false D0 w w5 by rw [show N + 1 - 1 = N by omega]; exact hE)
            clear hE
            go_wp2_with fail
            go_loopw [16, 17] (fun tv nv wq => ∃ (nn u : Int) (told : Bool) (D : DataW Unit), 1 ≤ nn ∧ nn ≤ t + span + 5 ∧ 0 ≤ u ∧ u ≤ 1 ∧ nv = .int .i64 nn ∧ tv = .int .i64 u ∧ Hid (u = if told = true then 1 else 0) ∧ Hid (Ev c b s span id t N (N + nn - 1) m told D w wq)) (fun _ nv _ => (t + span + 5 - intOf nv).toNat)
            case atStart => exact ⟨1, 0, false, D0, by omega, by omega, by omega, by omega, rfl, rfl, Lib.hid rfl, HE0⟩
            case round =>
              obtain ⟨nn, u, told, D, hn1, hn2, hu0, hu1, rfl, rfl, HU, HE⟩ := hrel
              by_cases hq : nn < t + span + 5
              · have z1 : decide (nn < t + span + 5) = true := decide_eq_true hq
                have KT := Lib.hid (ev_tick HE.out hm60 (by omega))
                go_wp2_with fail
                refine KT.out.mono ?_
                rintro e w6 ⟨A6, c6, ys, rfl, hrow, hTd, hE, hdue⟩
                obtain ⟨Y, hY⟩ : ∃ Y, ys.length = Y := ⟨_, rfl⟩
                rw [hY] at hrow ⊢
                have hYm := hTd.len
                rw [hY] at hYm
                have HR6 := Lib.hid (And.intro hrow (And.intro hTd (And.intro hE (And.intro hdue hY))))
                clear hrow hTd hE hdue hY
                go_wp2_with fail
                go_loopw [16, 19] (fun tv iv wq => ∃ (j : Nat) (u' : Int), j ≤ Y ∧ 0 ≤ u' ∧ u' ≤ 2 ∧ iv = .int .i64 j ∧ tv = .int .i64 u' ∧ Hid (u' = u + cntI id ys j) ∧ Hid (Below w6.heap.size w6 wq)) (fun _ iv _ => Y - (intOf iv).toNat)
                case atStart => exact ⟨0, u, by omega, by omega, by omega, rfl, rfl, Lib.hid (by simp [cntI]), Lib.hid (Below.refl _ _)⟩
                case round =>
                  obtain ⟨j, u', hjY, hu0', hu1', rfl, rfl, HU', HBI⟩ := hrel
                  by_cases hjl : j < Y
                  · have z2 : decide (j < Y) = true := decide_eq_true hjl
                    obtain ⟨x, hx⟩ : ∃ x, ys[j]? = some x := ⟨_, List.getElem?_eq_getElem (by have := HR6.out.2.2.2.2; omega)⟩
                    have hrq : wr.ownsRow w.heap.size 2 1 (.slice A6 ys.length c6) ys.length (ints ys) := by
                      rw [HR6.out.2.2.2.2]
                      exact own_onlyN HR6.out.1 (Only.of_below (S := fun _ => False) HBI.out) (fun _ _ h => h)
                    obtain ⟨g, rfl⟩ := row_some hrq (by have := HR6.out.2.2.2.2; omega)
                    have c1 := ints_cell hrq hx
                    have HX := Lib.hid hx
                    have HRQ := Lib.hid hrq
                    clear hrq hx
                    obtain rfl | ⟨jj, hjj⟩ : j = 0 ∨ ∃ jj, j = jj + 1 := by cases j; exact .inl rfl; exact .inr ⟨_, rfl⟩
                    · go_wp2_with fail
                      refine wp_region_quiet_below (by kernel_rfl) (by kernel_rfl) ?_
                      repeat (go_big_quiet_step (fail))
                      refine wpQuiet_nil ?_
                      intro _ hw'
                      obtain ⟨⟨dq, osq⟩, hw''⟩ := hw'
                      subst hw''
                      have HB7 := Lib.hid (below_step HBI.out (below_regrown _ dq osq))
                      have c4 := pw_cell_below (below_regrown wr dq osq) c1
                      obtain ⟨w7, hw7⟩ : ∃ V, Go.Sort.grow (redrawn wr dq) osq = V := ⟨_, rfl⟩
                      rw [hw7] at HB7 c4
                      simp only [hw7]
                      clear hw7 c1
                      by_cases hxe : x = id
                      · obtain rfl := hxe
                        have hTf := HR6.out.2.1.first (List.mem_of_getElem? HX.out)
                        have HCN := Lib.hid (cnt_yes HR6.out.2.1.sorted HX.out)
                        have z4 : (x == x) = true := beq_self_eq_true x
                        have z5 : decide (nn < t) = false := decide_eq_false (by omega)
                        have z6 : decide (t + span ≤ nn) = false := decide_eq_false (by omega)
                        have hu'1 : u' ≤ 1 := by
                          have e1 := HU'.out
                          have e2 := HU.out
                          rw [hTf.1] at e2
                          have e3 : cntI x ys 0 ≤ 1 := by unfold cntI; split <;> omega
                          simp at e2
                          omega
                        clear hTf
                        go_wp2
                        exact ⟨⟨0 + 1, u' + 1, by omega, by omega, by omega, by go_num, rfl, Lib.hid (by rw [HCN.out]; have := HU'.out; omega), HB7⟩, by simp [intOf]; omega⟩
                      · have z4 : (x == id) = false := beq_eq_false_iff_ne.2 hxe
                        have HCN := Lib.hid (cnt_no HX.out hxe)
                        clear hxe
                        go_wp2
                        exact ⟨⟨0 + 1, u', by omega, by omega, by omega, by go_num, rfl, Lib.hid (by rw [HCN.out]; exact HU'.out), HB7⟩, by simp [intOf]; omega⟩
                    · obtain ⟨x0, hx0⟩ : ∃ x0, ys[jj]? = some x0 := ⟨_, List.getElem?_eq_getElem (by have := HR6.out.2.2.2.2; omega)⟩
                      have c0 := ints_cell HRQ.out hx0
                      have hlt := told_lt HR6.out.2.1 hx0 (by rw [← hjj]; exact HX.out)
                      have z3 : decide (x ≤ x0) = false := decide_eq_false (by omega)
                      have z0 : decide (0 < j) = true := decide_eq_true (by omega)
                      have y1 := cell_regrown c1
                      have y0 := cell_regrown c0
                      have zw : IntKind.i64.wrap ((j : Int) - 1) = (jj : Int) := by rw [IntWalk.i64_in _ (by omega)]; omega
                      have hjY2 : jj < Y := by omega
                      have HJJ := Lib.hid hjj
                      clear hx0 hjj
                      go_wp2_with fail
                      refine wp_region_quiet_below (by kernel_rfl) (by kernel_rfl) ?_
                      repeat (go_big_quiet_step (fail))
                      refine wpQuiet_nil ?_
                      intro _ hw'
                      obtain ⟨⟨dq, osq⟩, hw''⟩ := hw'
                      subst hw''
                      have HB7 := Lib.hid (below_step HBI.out (below_regrown _ dq osq))
                      have c4 := pw_cell_below (below_regrown wr dq osq) c1
                      obtain ⟨w7, hw7⟩ : ∃ V, Go.Sort.grow (redrawn wr dq) osq = V := ⟨_, rfl⟩
                      rw [hw7] at HB7 c4
                      simp only [hw7]
                      clear hw7 c1 c0 zw y1 y0
                      by_cases hxe : x = id
                      · obtain rfl := hxe
                        have hTf := HR6.out.2.1.first (List.mem_of_getElem? HX.out)
                        have HCN := Lib.hid (cnt_yes HR6.out.2.1.sorted HX.out)
                        have z4 : (x == x) = true := beq_self_eq_true x
                        have z5 : decide (nn < t) = false := decide_eq_false (by omega)
                        have z6 : decide (t + span ≤ nn) = false := decide_eq_false (by omega)
                        have hu'1 : u' ≤ 1 := by
                          have e1 := HU'.out
                          have e2 := HU.out
                          rw [hTf.1] at e2
                          have e3 : cntI x ys (j) ≤ 1 := by unfold cntI; split <;> omega
                          simp at e2
                          omega
                        clear hTf
                        go_wp2
                        exact ⟨⟨(j) + 1, u' + 1, by omega, by omega, by omega, by go_num, rfl, Lib.hid (by rw [HCN.out]; have := HU'.out; omega), HB7⟩, by simp [intOf]; omega⟩
                      · have z4 : (x == id) = false := beq_eq_false_iff_ne.2 hxe
                        have HCN := Lib.hid (cnt_no HX.out hxe)
                        clear hxe
                        go_wp2
                        exact ⟨⟨(j) + 1, u', by omega, by omega, by omega, by go_num, rfl, Lib.hid (by rw [HCN.out]; exact HU'.out), HB7⟩, by simp [intOf]; omega⟩
                  · have z2 : decide (j < Y) = false := decide_eq_false hjl
                    obtain rfl : j = Y := by omega
                    have hE6 := HR6.out.2.2.1.move HBI.out
                    have HE6 := Lib.hid (show Ev c b s span id t N (N + (nn + 1) - 1) m (told || decide (id ∈ ys)) (dels D ys) w wr by rw [show N + (nn + 1) - 1 = N + nn - 1 + 1 by omega]; exact hE6)
                    have HU6 : Hid (u' = if (told || decide (id ∈ ys)) = true then 1 else 0) := Lib.hid (by rw [← cnt_end HR6.out.2.1, ← HU.out, HR6.out.2.2.2.2]; exact HU'.out)
                    have hu6 : u' ≤ 1 := by rw [HU6.out]; split <;> omega
                    clear hE6
                    go_wp2
                    exact ⟨⟨nn + 1, u', _, _, by omega, by omega, by omega, by omega, rfl, rfl, HU6, HE6⟩, by simp [intOf]; omega⟩
              · have z1 : decide (nn < t + span + 5) = false := decide_eq_false hq
                have htold : told = true := by
                  cases told with
                  | true => rfl
                  | false =>
                    have e1 := (HE.out.yes rfl).2
                    have e2 := round_le (tick := N + t) h1 (by omega)
                    omega
                subst htold
                have hu : u = 1 := by simpa using HU.out
                subst hu
                have hno := HE.out.no rfl
                have KD := due_calls id HE.out.clk h1 hi0
                rw [hno] at KD
                have HKD := Lib.hid KD
                have HNO := Lib.hid hno
                clear KD hno
                go_wp2_with fail
                refine HKD.out.mono ?_
                rintro e w8 ⟨d8, rfl, _, hB8⟩
                have HE8 := Lib.hid (HE.out.move hB8)
                clear hB8
                have KG := Lib.hid (touch_gone id HE8.out.clk h1 hi0 HNO.out)
                go_wp2_with fail
                refine KG.out.mono ?_
                rintro e w9 ⟨rfl, hB9⟩
                have HB9 := Lib.hid (below_step HE8.out.below hB9)
                clear hB9
                go_wp2
                go_ret
                exact ⟨rfl, HB9.out⟩
        · have r1 : decide (j < L) = false := decide_eq_false hlt1
          clear hj
          have KB := Lib.hid (cl_begin id t HJ.out hN0 (by omega) (by omega) i0 t0 t1 hi0)
          go_wp2_with fail
          refine KB.out.mono ?_
          rintro e w5 ⟨rfl, D0, m, hm60, hE⟩
          have HE0 := Lib.hid (show Ev c b s span id t N (N + 1 - 1) m false D0 w w5 by rw [show N + 1 - 1 = N by omega]; exact hE)
          clear hE
          go_wp2_with fail
          go_loopw [16, 17] (fun tv nv wq => ∃ (nn u : Int) (told : Bool) (D : DataW Unit), 1 ≤ nn ∧ nn ≤ t + span + 5 ∧ 0 ≤ u ∧ u ≤ 1 ∧ nv = .int .i64 nn ∧ tv = .int .i64 u ∧ Hid (u = if told = true then 1 else 0) ∧ Hid (Ev c b s span id t N (N + nn - 1) m told D w wq)) (fun _ nv _ => (t + span + 5 - intOf nv).toNat)
          case atStart => exact ⟨1, 0, false, D0, by omega, by omega, by omega, by omega, rfl, rfl, Lib.hid rfl, HE0⟩
          case round =>
            obtain ⟨nn, u, told, D, hn1, hn2, hu0, hu1, rfl, rfl, HU, HE⟩ := hrel
            by_cases hq : nn < t + span + 5
            · have z1 : decide (nn < t + span + 5) = true := decide_eq_true hq
              have KT := Lib.hid (ev_tick HE.out hm60 (by omega))
              go_wp2_with fail
              refine KT.out.mono ?_
              rintro e w6 ⟨A6, c6, ys, rfl, hrow, hTd, hE, hdue⟩
              obtain ⟨Y, hY⟩ : ∃ Y, ys.length = Y := ⟨_, rfl⟩
              rw [hY] at hrow ⊢
              have hYm := hTd.len
              rw [hY] at hYm
              have HR6 := Lib.hid (And.intro hrow (And.intro hTd (And.intro hE (And.intro hdue hY))))
              clear hrow hTd hE hdue hY
              go_wp2_with fail
              go_loopw [16, 19] (fun tv iv wq => ∃ (j : Nat) (u' : Int), j ≤ Y ∧ 0 ≤ u' ∧ u' ≤ 2 ∧ iv = .int .i64 j ∧ tv = .int .i64 u' ∧ Hid (u' = u + cntI id ys j) ∧ Hid (Below w6.heap.size w6 wq)) (fun _ iv _ => Y - (intOf iv).toNat)
              case atStart => exact ⟨0, u, by omega, by omega, by omega, rfl, rfl, Lib.hid (by simp [cntI]), Lib.hid (Below.refl _ _)⟩
              case round =>
                obtain ⟨j, u', hjY, hu0', hu1', rfl, rfl, HU', HBI⟩ := hrel
                by_cases hjl : j < Y
                · have z2 : decide (j < Y) = true := decide_eq_true hjl
                  obtain ⟨x, hx⟩ : ∃ x, ys[j]? = some x := ⟨_, List.getElem?_eq_getElem (by have := HR6.out.2.2.2.2; omega)⟩
                  have hrq : wr.ownsRow w.heap.size 2 1 (.slice A6 ys.length c6) ys.length (ints ys) := by
                    rw [HR6.out.2.2.2.2]
                    exact own_onlyN HR6.out.1 (Only.of_below (S := fun _ => False) HBI.out) (fun _ _ h => h)
                  obtain ⟨g, rfl⟩ := row_some hrq (by have := HR6.out.2.2.2.2; omega)
                  have c1 := ints_cell hrq hx
                  have HX := Lib.hid hx
                  have HRQ := Lib.hid hrq
                  clear hrq hx
                  obtain rfl | ⟨jj, hjj⟩ : j = 0 ∨ ∃ jj, j = jj + 1 := by cases j; exact .inl rfl; exact .inr ⟨_, rfl⟩
                  · go_wp2_with fail
                    refine wp_region_quiet_below (by kernel_rfl) (by kernel_rfl) ?_
                    repeat (go_big_quiet_step (fail))
                    refine wpQuiet_nil ?_
                    intro _ hw'
                    obtain ⟨⟨dq, osq⟩, hw''⟩ := hw'
                    subst hw''
                    have HB7 := Lib.hid (below_step HBI.out (below_regrown _ dq osq))
                    have c4 := pw_cell_below (below_regrown wr dq osq) c1
                    obtain ⟨w7, hw7⟩ : ∃ V, Go.Sort.grow (redrawn wr dq) osq = V := ⟨_, rfl⟩
                    rw [hw7] at HB7 c4
                    simp only [hw7]
                    clear hw7 c1
                    by_cases hxe : x = id
                    · obtain rfl := hxe
                      have hTf := HR6.out.2.1.first (List.mem_of_getElem? HX.out)
                      have HCN := Lib.hid (cnt_yes HR6.out.2.1.sorted HX.out)
                      have z4 : (x == x) = true := beq_self_eq_true x
                      have z5 : decide (nn < t) = false := decide_eq_false (by omega)
                      have z6 : decide (t + span ≤ nn) = false := decide_eq_false (by omega)
                      have hu'1 : u' ≤ 1 := by
                        have e1 := HU'.out
                        have e2 := HU.out
                        rw [hTf.1] at e2
                        have e3 : cntI x ys 0 ≤ 1 := by unfold cntI; split <;> omega
                        simp at e2
                        omega
                      clear hTf
                      go_wp2
                      exact ⟨⟨0 + 1, u' + 1, by omega, by omega, by omega, by go_num, rfl, Lib.hid (by rw [HCN.out]; have := HU'.out; omega), HB7⟩, by simp [intOf]; omega⟩
                    · have z4 : (x == id) = false := beq_eq_false_iff_ne.2 hxe
                      have HCN := Lib.hid (cnt_no HX.out hxe)
                      clear hxe
                      go_wp2
                      exact ⟨⟨0 + 1, u', by omega, by omega, by omega, by go_num, rfl, Lib.hid (by rw [HCN.out]; exact HU'.out), HB7⟩, by simp [intOf]; omega⟩
                  · obtain ⟨x0, hx0⟩ : ∃ x0, ys[jj]? = some x0 := ⟨_, List.getElem?_eq_getElem (by have := HR6.out.2.2.2.2; omega)⟩
                    have c0 := ints_cell HRQ.out hx0
                    have hlt := told_lt HR6.out.2.1 hx0 (by rw [← hjj]; exact HX.out)
                    have z3 : decide (x ≤ x0) = false := decide_eq_false (by omega)
                    have z0 : decide (0 < j) = true := decide_eq_true (by omega)
                    have y1 := cell_regrown c1
                    have y0 := cell_regrown c0
                    have zw : IntKind.i64.wrap ((j : Int) - 1) = (jj : Int) := by rw [IntWalk.i64_in _ (by omega)]; omega
                    have hjY2 : jj < Y := by omega
                    have HJJ := Lib.hid hjj
                    clear hx0 hjj
                    go_wp2_with fail
                    refine wp_region_quiet_below (by kernel_rfl) (by kernel_rfl) ?_
                    repeat (go_big_quiet_step (fail))
                    refine wpQuiet_nil ?_
                    intro _ hw'
                    obtain ⟨⟨dq, osq⟩, hw''⟩ := hw'
                    subst hw''
                    have HB7 := Lib.hid (below_step HBI.out (below_regrown _ dq osq))
                    have c4 := pw_cell_below (below_regrown wr dq osq) c1
                    obtain ⟨w7, hw7⟩ : ∃ V, Go.Sort.grow (redrawn wr dq) osq = V := ⟨_, rfl⟩
                    rw [hw7] at HB7 c4
                    simp only [hw7]
                    clear hw7 c1 c0 zw y1 y0
                    by_cases hxe : x = id
                    · obtain rfl := hxe
                      have hTf := HR6.out.2.1.first (List.mem_of_getElem? HX.out)
                      have HCN := Lib.hid (cnt_yes HR6.out.2.1.sorted HX.out)
                      have z4 : (x == x) = true := beq_self_eq_true x
                      have z5 : decide (nn < t) = false := decide_eq_false (by omega)
                      have z6 : decide (t + span ≤ nn) = false := decide_eq_false (by omega)
                      have hu'1 : u' ≤ 1 := by
                        have e1 := HU'.out
                        have e2 := HU.out
                        rw [hTf.1] at e2
                        have e3 : cntI x ys (j) ≤ 1 := by unfold cntI; split <;> omega
                        simp at e2
                        omega
                      clear hTf
                      go_wp2
                      exact ⟨⟨(j) + 1, u' + 1, by omega, by omega, by omega, by go_num, rfl, Lib.hid (by rw [HCN.out]; have := HU'.out; omega), HB7⟩, by simp [intOf]; omega⟩
                    · have z4 : (x == id) = false := beq_eq_false_iff_ne.2 hxe
                      have HCN := Lib.hid (cnt_no HX.out hxe)
                      clear hxe
                      go_wp2
                      exact ⟨⟨(j) + 1, u', by omega, by omega, by omega, by go_num, rfl, Lib.hid (by rw [HCN.out]; exact HU'.out), HB7⟩, by simp [intOf]; omega⟩
                · have z2 : decide (j < Y) = false := decide_eq_false hjl
                  obtain rfl : j = Y := by omega
                  have hE6 := HR6.out.2.2.1.move HBI.out
                  have HE6 := Lib.hid (show Ev c b s span id t N (N + (nn + 1) - 1) m (told || decide (id ∈ ys)) (dels D ys) w wr by rw [show N + (nn + 1) - 1 = N + nn - 1 + 1 by omega]; exact hE6)
                  have HU6 : Hid (u' = if (told || decide (id ∈ ys)) = true then 1 else 0) := Lib.hid (by rw [← cnt_end HR6.out.2.1, ← HU.out, HR6.out.2.2.2.2]; exact HU'.out)
                  have hu6 : u' ≤ 1 := by rw [HU6.out]; split <;> omega
                  clear hE6
                  go_wp2
                  exact ⟨⟨nn + 1, u', _, _, by omega, by omega, by omega, by omega, rfl, rfl, HU6, HE6⟩, by simp [intOf]; omega⟩
            · have z1 : decide (nn < t + span + 5) = false := decide_eq_false hq
              have htold : told = true := by
                cases told with
                | true => rfl
                | false =>
                  have e1 := (HE.out.yes rfl).2
                  have e2 := round_le (tick := N + t) h1 (by omega)
                  omega
              subst htold
              have hu : u = 1 := by simpa using HU.out
              subst hu
              have hno := HE.out.no rfl
              have KD := due_calls id HE.out.clk h1 hi0
              rw [hno] at KD
              have HKD := Lib.hid KD
              have HNO := Lib.hid hno
              clear KD hno
              go_wp2_with fail
              refine HKD.out.mono ?_
              rintro e w8 ⟨d8, rfl, _, hB8⟩
              have HE8 := Lib.hid (HE.out.move hB8)
              clear hB8
              have KG := Lib.hid (touch_gone id HE8.out.clk h1 hi0 HNO.out)
              go_wp2_with fail
              refine KG.out.mono ?_
              rintro e w9 ⟨rfl, hB9⟩
              have HB9 := Lib.hid (below_step HE8.out.below hB9)
              clear hB9
              go_wp2
              go_ret
              exact ⟨rfl, HB9.out⟩
end Go.Proofs.Ytkmpbnicofiehaa.Q
