import Derived.Test.YtbcijdgpaglbnaaS
namespace Go.Proofs.Ytbcijdgpaglbnaa.Q
open Go.RowKit Go.Shelf Go.Proofs.YtbcijdgpaglbnaaW.PrintWords Go.Deep Go.Sort
set_option linter.unusedVariables false
set_option linter.unusedSimpArgs false
attribute [local go_sem] Oper.semAt_some

theorem xor_u8 (a b : Nat) (ha : a < 256) (hb : b < 256) : bits .xor .u8 (a : Int) (b : Int) = ((a ^^^ b : Nat) : Int) ∧ a ^^^ b < 256 := by
  have h1 : (BitVec.ofInt 8 (a : Int)).toNat = a := by
    rw [BitVec.ofInt_natCast, BitVec.toNat_ofNat]; exact Nat.mod_eq_of_lt (by omega)
  have h2 : (BitVec.ofInt 8 (b : Int)).toNat = b := by
    rw [BitVec.ofInt_natCast, BitVec.toNat_ofNat]; exact Nat.mod_eq_of_lt (by omega)
  have h3 : a ^^^ b < 2 ^ 8 := Nat.xor_lt_two_pow (by omega) (by omega)
  refine ⟨?_, by omega⟩
  show IntKind.u8.wrap ((BitVec.ofInt 8 (a : Int) ^^^ BitVec.ofInt 8 (b : Int)).toNat : Int) = _
  rw [BitVec.toNat_xor, h1, h2, IntKind.wrap_u8]; omega
theorem xor_ne (a b : Nat) (hb : b ≠ 0) : a ^^^ b ≠ a := fun h => hb (by
  have h2 : a ^^^ (a ^^^ b) = a ^^^ a := congrArg (a ^^^ ·) h
  rw [← Nat.xor_assoc, Nat.xor_self, Nat.zero_xor] at h2; exact h2)
/-- what joined answers; the bodies lie where they lay -/
theorem joined_jo (A : Option Addr) (c : Nat) (Ls : List (List Nat)) (f : Nat → Option Addr × Nat) (w : World) (hr : RdBs w A Ls f) (hb : ∀ i, Bytes (Ls.getD i [])) (ht : total Ls Ls.length ≤ 1073741823) :
    ∃ (Ms : List (List Nat)) (X : List Nat) (g : Nat → Option Addr × Nat), X = joinL Ms ∧ okL Ms ∧ (∀ i, Bytes (Ms.getD i [])) ∧ X.length ≤ 1073741823 ∧ Ms.length ≤ 1073741823 ∧ (∀ i, i < Ms.length → RdB w (g i).1 (Ms.getD i [])) ∧ Calls Try.prog 8 #[.slice A Ls.length c] w fun e W =>
      ∃ aa ca al cl ap cp, e = .returned (.tuple #[.slice aa X.length ca, .slice al Ms.length cl, .slice ap Ms.length cp, .bool true]) ∧ JI w W Ms X (.slice aa X.length ca) (.slice al Ms.length cl) (.slice ap Ms.length cp) g := by
  refine ⟨bodiesTo Ls Ls.length, joinL (bodiesTo Ls Ls.length), fun i => f ((kept Ls Ls.length).getD i 0), rfl, bodies_ok Ls _, bodies_bytes Ls hb _, Nat.le_trans (joinTo_le Ls Ls.length) ht, ?_, fun i hi => ?_, (joined_calls A c Ls f w hr hb ht).mono ?_⟩
  · have := kept_le Ls Ls.length
    have := total_mono Ls (Nat.zero_le Ls.length)
    rw [bodiesTo_length]; omega
  · rw [bodiesTo_length] at hi
    rw [bodiesTo_getD Ls Ls.length i hi]
    have hlt := kept_lt Ls Ls.length i hi
    obtain ⟨b, o, e, hc⟩ := hr.2 (by omega)
    exact (hc _ hlt).2
  · rintro e W ⟨va, vl, vp, rfl, h⟩
    have hj := JI.of hr h
    obtain ⟨aa, ca, rfl⟩ := own_form hj.a
    obtain ⟨al, cl, rfl⟩ := own_form hj.l
    obtain ⟨ap, cp, rfl⟩ := own_form hj.p
    exact ⟨aa, ca, al, cl, ap, cp, rfl, hj⟩
theorem JI.turn {w W : World} {Ms : List (List Nat)} {X : List Nat} {ga ca : Nat} {vl vp : Value} {g : Nat → Option Addr × Nat} (h : JI w W Ms X (.slice (some ⟨ga, 0, none⟩) X.length ca) vl vp g) (hr : ∀ i, i < Ms.length → RdB w (g i).1 (Ms.getD i [])) (place y : Nat) :
    JI w (W.setCell ⟨ga, place, none⟩ (.int .u8 y)) Ms (X.set place y) (.slice (some ⟨ga, 0, none⟩) X.length ca) vl vp g := by
  obtain ⟨cur, hc⟩ := own_blk h.a (g := ga) rfl
  have hlt := (h.a.lt ga rfl).1
  have hB := h.b.setCell (p := ⟨ga, place, none⟩) hlt (.int .u8 y)
  refine ⟨?_, set_row h.l hc (by decide), set_row h.p hc (by decide), fun i hi => (hr i hi).below hB, hB⟩
  have := (World.ownsRow.stored h.a place (.int .u8 y)).1
  have e : (bytesV X).set place (.int .u8 y) = bytesV (X.set place y) := by simp [bytesV, List.map_set]
  rw [e] at this
  simpa using this

set_option maxRecDepth 100000 in
set_option maxHeartbeats 8000000 in
theorem turned_calls (A : Option Addr) (c : Nat) (Ls : List (List Nat)) (f : Nat → Option Addr × Nat) (place : Int) (b : Nat) (w : World) (hr : RdBs w A Ls f) (hb : ∀ i, Bytes (Ls.getD i [])) (hc1 : -9223372036854775808 ≤ place) (hc2 : place ≤ 9223372036854775807) (hb256 : b < 256) :
    Calls Try.prog 4 #[.slice A Ls.length c, .int .i64 place, .int .u8 b] w fun e w' => e = .returned (.bool true) ∧ Below w.heap.size w w' := by
  have HR := Lib.hid hr
  have HB := Lib.hid hb
  clear hr hb
  go_enter Try.func4, Try.ntmps4
  go_wp2_with fail
  refine (long_calls A c Ls f w HR.out).mono ?_
  rintro e w0 ⟨rfl, q, rfl, hq⟩
  have HQ := Lib.hid hq
  clear hq
  cases q with
  | true =>
    go_wp2
    go_ret
    exact ⟨rfl, Below.refl _ _⟩
  | false =>
  go_wp2_with fail
  refine (lives_calls w).mono ?_
  rintro e w1 ⟨rfl, hB1⟩
  obtain ⟨Ms, X, g, hX, ok, hMb, hXl, hMl, hRg, KJ⟩ := joined_jo A c Ls f w1 (HR.out.below hB1) HB.out (HQ.out trivial)
  have HK := Lib.hid KJ
  have HX := Lib.hid (And.intro hX (And.intro ok (And.intro hMb hRg)))
  obtain ⟨Xn, eXn⟩ : ∃ x, X.length = x := ⟨_, rfl⟩
  obtain ⟨N, eN⟩ : ∃ x, Ms.length = x := ⟨_, rfl⟩
  have EX := Lib.hid eXn
  have EN := Lib.hid eN
  have HB1 := Lib.hid hB1
  rw [eXn] at hXl
  rw [eN] at hMl
  clear KJ hX ok hMb hRg hB1 HR HB HQ eXn eN
  go_wp2_with fail
  refine HK.out.mono ?_
  rintro e w2 ⟨aa, ca, al, cl, ap, cp, rfl, hJ⟩
  have HJ := Lib.hid hJ
  have HBw := Lib.hid (below_then HB1.out HB1.out.size hJ.b)
  rw [EX.out, EN.out]
  have hca := (own_rd hJ.a (by rw [EX.out]; omega)).2.1
  rw [EX.out] at hca
  clear hJ HK
  by_cases hb0 : b = 0
  · subst hb0
    go_wp2
    go_ret
    exact ⟨rfl, HBw.out⟩
  have hbz : ((b : Int) == 0) = false := by simp; omega
  by_cases hp0 : place < 0
  · go_wp2
    go_ret
    exact ⟨rfl, HBw.out⟩
  obtain ⟨m, rfl⟩ := Int.eq_ofNat_of_zero_le (show 0 ≤ place by omega)
  by_cases hpx : Xn ≤ m
  · go_wp2
    go_ret
    exact ⟨rfl, HBw.out⟩
  have hm : m < Xn := by omega
  have hN : 0 < N := by
    by_cases e : N = 0
    · have := pos_all Ms
      rw [EN.out, e, pos_zero, ← HX.out.1, EX.out] at this; omega
    · omega
  have HNX : Hid (pos Ms N = Xn) := Lib.hid (by have := pos_all Ms; rwa [EN.out, ← HX.out.1, EX.out] at this)
  clear hp0 hpx
  go_wp2
  go_loop [12] (fun n => ∃ k : Nat, k < N ∧ n = .int .i64 k ∧ pos Ms k ≤ m) (fun n => N - (intOf n).toNat)
  case atStart => exact ⟨0, hN, rfl, by rw [pos_zero]; omega⟩
  case round =>
    obtain ⟨k, hk, rfl, hpk⟩ := hrel
    by_cases hgo : k + 1 < N ∧ pos Ms (k + 1) ≤ m
    · obtain ⟨g1, g2⟩ := hgo
      obtain ⟨bp, hbp, hp⟩ := HJ.out.pcell (k + 1) (by rw [EN.out]; exact g1)
      subst hbp
      obtain ⟨P, eP⟩ : ∃ x, pos Ms (k + 1) = x := ⟨_, rfl⟩
      rw [eP] at hp g2
      have HP := Lib.hid eP
      clear eP
      go_wp2
      exact ⟨⟨k + 1, g1, by go_num, by rw [HP.out]; exact g2⟩, by simp [intOf]; omega⟩
    · have hnext : m < pos Ms (k + 1) := by
        by_cases e : k + 1 < N
        · exact Nat.lt_of_not_le (fun h => hgo ⟨e, h⟩)
        · have : k + 1 = N := by omega
          rw [this, HNX.out]; exact hm
      have HNEXT := Lib.hid hnext
      obtain ⟨b3, hb3, k3⟩ := HJ.out.pcell k (by rw [EN.out]; exact hk)
      obtain ⟨b4, hb4, k4⟩ := HJ.out.lcell k (by rw [EN.out]; exact hk)
      cases hb3
      cases hb4
      have T1 : Hid (pos Ms (k + 1) = pos Ms k + sizes Ms k + 9) := Lib.hid (pos_succ Ms k (by rw [EN.out]; exact hk))
      obtain ⟨P, eP⟩ : ∃ x, pos Ms k = x := ⟨_, rfl⟩
      have EP := Lib.hid eP
      obtain ⟨S, eS⟩ : ∃ x, sizes Ms k = x := ⟨_, rfl⟩
      have hSz : S ≤ 1048576 := by rw [← eS]; exact (HX.out.2.1 k (by rw [EN.out]; exact hk)).2
      rw [eP] at k3 T1 hpk
      rw [eS] at k4 T1
      have hPS : P + S + 9 ≤ Xn := by
        have := pos_mono Ms (show k + 1 ≤ N by omega) (by rw [EN.out]; exact Nat.le_refl _)
        rw [HNX.out, T1.out] at this; omega
      obtain ⟨x5, hx5, K5⟩ : ∃ x, x < 256 ∧ ∃ ga, aa = some ⟨ga, 0, none⟩ ∧ w2.cell? ⟨ga, m, none⟩ = some (.int .u8 (x : Nat)) ∧ w2.frozen? ⟨ga, m, none⟩ = false ∧ X.getD m 0 = x := by
        have hbX : Bytes X := by rw [HX.out.1]; exact joinL_bytes Ms HX.out.2.2.1
        obtain ⟨ga, h1, h2, h3⟩ := own_at HJ.out.a m (by rw [EX.out]; exact hm) (.int .u8 (X.getD m 0 : Nat)) (by simp [bytesV, List.getD_eq_getElem?_getD, List.getElem?_eq_getElem (show m < X.length by rw [EX.out]; exact hm)])
        exact ⟨_, hbX m, ga, h1, h2, h3, rfl⟩
      obtain ⟨ga, hga, c5, f5, e5⟩ := K5
      cases hga
      obtain ⟨y, hxor, hy⟩ : ∃ y, x5 ^^^ b = y ∧ y < 256 := ⟨_, rfl, (xor_u8 x5 b hx5 hb256).2⟩
      have hxo := (xor_u8 x5 b hx5 hb256).1
      rw [hxor] at hxo
      have HY : Hid (y ≠ (joinL Ms).getD m 0) := Lib.hid (by rw [← HX.out.1, e5, ← hxor]; exact xor_ne x5 b hb0)
      have cf : ∀ i, i = m ∨ True := fun _ => .inr trivial
      clear cf hgo hnext eP eS hxor e5
      by_cases hk1 : k + 1 < N
      · obtain ⟨bp, hbp, c6⟩ := HJ.out.pcell (k + 1) (by rw [EN.out]; exact hk1)
        cases hbp
        have qn : ¬ pos Ms (k + 1) ≤ m := by have := HNEXT.out; omega
        obtain ⟨P1, eP1⟩ : ∃ x, pos Ms (k + 1) = x := ⟨_, rfl⟩
        rw [eP1] at c6 qn
        have q1 : decide ((P1 : Int) ≤ (m : Int)) = false := by simp; omega
        have hP1 : Hid (pos Ms (k + 1) = P1) := Lib.hid eP1
        clear eP1
        by_cases h4 : m < P + 4
        · go_wp2
          go_ret
          exact ⟨rfl, HBw.out⟩
        have HJ2 := HJ.out.turn HX.out.2.2.2 m y
        have HX2l : (X.set m y).length = Xn := by rw [List.length_set, EX.out]
        have HBg : Hid (Begins Ms k (X.set m y)) := Lib.hid (by
          rw [HX.out.1]
          exact turned_begins Ms HX.out.2.1 HX.out.2.2.1 k m y (by rw [EN.out]; exact hk) (by rw [EP.out]; omega) HNEXT.out hy HY.out)
        have HO1 : Hid (oneB (((X.set m y).drop P).take (S + 9)) = none) := Lib.hid (by
          have := turned_one Ms HX.out.2.1 HX.out.2.2.1 k m y (by rw [EN.out]; exact hk) (by rw [EP.out]; omega) HNEXT.out hy HY.out
          rw [← HX.out.1, EP.out] at this
          have e : (Ms.getD k []).length = S := by have h1 := T1.out; have h2 := pos_succ Ms k (by rw [EN.out]; exact hk); rw [EP.out] at h2; omega
          rw [e] at this; exact this)
        have HX2b : Hid (Bytes (X.set m y)) := Lib.hid (by
          intro i
          have hbX : Bytes X := by rw [HX.out.1]; exact joinL_bytes Ms HX.out.2.2.1
          by_cases e : i = m
          · subst e; rw [getD_set_eq _ _ _ _ (by rw [EX.out]; exact hm)]; exact hy
          · rw [getD_set_ne _ _ _ _ _ (Ne.symm e)]; exact hbX i)
        obtain ⟨Y, eY⟩ : ∃ Y, X.set m y = Y := ⟨_, rfl⟩
        rw [eY] at HJ2 HX2l HBg HO1 HX2b
        have HJY := Lib.hid HJ2
        have EY := Lib.hid HX2l
        clear HJ2 HX2l eY HY
        go_wp2_with fail
        have HW2 := HJY.out.b
        obtain ⟨W, hW⟩ : ∃ V, w2.setCell ⟨ga, m, none⟩ (.int .u8 y) = V := ⟨_, rfl⟩
        rw [hW] at HJY
        rw [hW]
        clear HW2 hW c5 f5 k3 k4 hxo
        have hYa := HJY.out.a
        rw [EX.out] at hYa
        have rd0 := own_rd (a := some ⟨ga, 0, none⟩) (X := Y) (W := W) (b := w1.heap.size) (c := ca) (by rw [EY.out] at *; exact hYa) (by rw [EY.out]; omega)
        have RX := Lib.hid rd0
        have K9 := through_calls (some ⟨ga, 0, none⟩) ca Y W RX.out.1 HX2b.out (by rw [EY.out]; omega)
        rw [EY.out] at K9
        have HK9 := Lib.hid K9
        clear rd0 K9 hYa
        refine HK9.out.mono ?_
        rintro e W1 ⟨hB2, v1, v2, xs, rfl, hxs, h1, h2, h3⟩
        obtain ⟨a1, c1, rfl⟩ := own_form h1
        obtain ⟨a2, c2, rfl⟩ := own_form h2
        have hxl : xs.length = k := by have := congrArg List.length hxs; rw [List.length_map, upto_length, HBg.out.cnt HX.out.2.1] at this; exact this
        rw [hxl] at h1 h2 ⊢
        have HS := Lib.hid (And.intro h1 (And.intro h2 (And.intro h3 (And.intro hxs hxl))))
        have HT3 := Lib.hid (HJY.out.below hB2)
        have HRX := Lib.hid (RX.out.1.below hB2)
        have HBw1 := Lib.hid hB2
        clear h1 h2 h3 hxs hxl hB2 HK9
        go_wp2_with fail
        have bA := below_alloc1 W1 (.cells #[.slice a1 k c1, .slice a2 k c2] 30)
        have nA := heap_alloc_new W1 (.cells #[.slice a1 k c1, .slice a2 k c2] 30)
        obtain ⟨G, eG⟩ : ∃ G, W1.heap.size = G := ⟨_, rfl⟩
        rw [eG] at nA
        obtain ⟨W2, hW2⟩ : ∃ V, W1.alloc (.cells #[.slice a1 k c1, .slice a2 k c2] 30) = V := ⟨_, rfl⟩
        rw [hW2] at bA nA
        rw [hW2, eG]
        have HT4 := Lib.hid (HT3.out.below bA)
        have HRX4 := Lib.hid (HRX.out.below bA)
        have gaW2 : ga < W2.heap.size := Nat.lt_of_lt_of_le (RX.out.2.2.1 _ rfl).1 (Nat.le_trans HBw1.out.size bA.size)
        have KW : ∀ d os, Calls Try.prog 10 #[.slice (some ⟨ga, 0, none⟩) Xn ca] (grow (redrawn W2 d) os) fun e w'' => e = .returned (.int .i64 (P : Nat)) ∧ ∃ p : Regrown, w'' = grow (redrawn W2 p.d) p.os := fun d os => Calls.regrown_of (by
          have := whole_calls (some ⟨ga, 0, none⟩) ca Y (grow (redrawn W2 d) os) (HRX4.out.below (below_regrown W2 d os)) (fun a ha => by
            obtain rfl := Option.some.inj ha
            exact ⟨Nat.lt_of_lt_of_le gaW2 (below_regrown W2 d os).size, rfl⟩) (fun h => by cases h) HX2b.out (by rw [EY.out]; exact hca) (by rw [EY.out]; omega)
          rw [HBg.out.cnt HX.out.2.1, HBg.out.at HX.out.2.1 k (Nat.le_refl _), EY.out, EP.out] at this
          exact this)
        have m1 : ((k : Int) != (k : Int)) = false := by simp
        have m2 : ((P : Int) != (P : Int)) = false := by simp
        obtain ⟨bq, hbq, kq⟩ := HT4.out.pcell k (by rw [EN.out]; exact hk)
        cases hbq
        rw [EP.out] at kq
        have x1 := cell_regrown kq
        have y0 := cell_regrown ((cell_of_row W2 G 0 _ _ _ nA).trans (show _ = some (Value.slice a1 k c1) from rfl))
        have HA := Lib.hid (And.intro bA (And.intro nA eG))
        have HKW := Lib.hid KW
        clear bA nA hW2 eG kq KW
        refine wp_region_quiet_below (by kernel_rfl) (by kernel_rfl) ?_
        repeat (go_big_quiet_step (exact HKW.out _ _))
        refine wpQuiet_nil ?_
        intro _ hw'
        obtain ⟨⟨dq, osq⟩, hw''⟩ := hw'
        subst hw''
        have hB3 := below_regrown W2 dq osq
        generalize grow (redrawn W2 dq) osq = W3 at *
        have glt : G < W2.heap.size := (Array.getElem?_eq_some_iff.1 HA.out.2.1).1
        have n3 : W3.heap[G]? = some (.cells #[.slice a1 k c1, .slice a2 k c2] 30 (0, 0)) := (hB3.block G glt).trans HA.out.2.1
        have HT5 := Lib.hid (HT4.out.below hB3)
        have HRX5 := Lib.hid (HRX4.out.below hB3)
        have B13 : Below W1.heap.size W1 W3 := HA.out.1.trans (hB3.mono HA.out.1.size)
        have HS5 := Lib.hid (And.intro (own_then HS.out.1 B13) (And.intro (own_then HS.out.2.1 B13) (And.intro (fun x hx => (B13.block _ (Array.getElem?_eq_some_iff.1 (HS.out.2.2.1 x hx)).1).trans (HS.out.2.2.1 x hx)) (And.intro HS.out.2.2.2.1 HS.out.2.2.2.2))))
        have HN3 := Lib.hid n3
        have gaW3 : ga < W3.heap.size := Nat.lt_of_lt_of_le gaW2 hB3.size
        clear n3 hB3 HKW HT4 HRX4 B13 HS HA glt x1 y0 m1 m2 gaW2
        go_wp2
        go_loopw [14] (fun i wr => ∃ j : Nat, j ≤ k ∧ i = .int .i64 j ∧ Hid (Below W3.heap.size W3 wr)) (fun i _ => k - (intOf i).toNat)
        case atStart => exact ⟨0, by omega, rfl, Lib.hid (Below.refl _ _)⟩
        case round =>
          obtain ⟨j, hj, rfl, HBj⟩ := hrel
          by_cases hlt : j < k
          · have hjN : j < Ms.length := by rw [EN.out]; omega
            obtain ⟨x, hx⟩ : ∃ x, xs[j]? = some x := ⟨_, List.getElem?_eq_getElem (by rw [HS5.out.2.2.2.2]; exact hlt)⟩
            have hfr : frameOf x = (pos Ms j, sizes Ms j) := by
              have h8 := congrArg (fun l => l[j]?) HS5.out.2.2.2.1
              simp only [List.getElem?_map, hx, Option.map_some] at h8
              rw [HBg.out.cnt HX.out.2.1] at h8
              have h9 : (upto (frameAt Y) k)[j]? = some (frameAt Y j) := by simp [upto, hlt]
              rw [h9] at h8
              exact (Option.some.inj h8).trans (HBg.out.frame HX.out.2.1 j hlt)
            obtain ⟨xp, xm, xg⟩ := x
            have e1 : xp = pos Ms j := congrArg Prod.fst hfr
            have e2 : xm = sizes Ms j := congrArg Prod.snd hfr
            subst e1 e2
            obtain ⟨b2, hb2, k2, _⟩ := own_at HS5.out.2.1 j hlt (.slice (some ⟨xg, 0, none⟩) (sizes Ms j) (sizes Ms j)) (by rw [List.getElem?_map, hx]; rfl)
            obtain ⟨b4, hb4, k4⟩ := HT5.out.lcell j hjN
            cases hb2
            cases hb4
            have hrx := HS5.out.2.2.1 _ (List.mem_of_getElem? hx)
            have hrx2 : W3.heap[xg]? = some (.cells (bytesV (Ms.getD j [])).toArray 5 (0, 0)) := by rw [← HBg.out.is j hlt]; exact hrx
            have hS := (HX.out.2.1 j hjN).2
            have RA := own_rdb hrx2 (by omega)
            have RB := HT5.out.r j hjN
            have KE : ∀ d os, Calls Try.prog 11 #[.slice (some ⟨xg, 0, none⟩) (sizes Ms j) (sizes Ms j), .slice (g j).1 (sizes Ms j) (g j).2] (grow (redrawn wr d) os) fun e w'' => e = .returned (.bool true) ∧ ∃ p : Regrown, w'' = grow (redrawn wr p.d) p.os := fun d os => Calls.regrown_of (eq_calls _ _ _ _ (Ms.getD j []) _ ((RA.below HBj.out).below (below_regrown wr d os)) ((RB.below HBj.out).below (below_regrown wr d os)))
            have x2 := cell_regrown (pw_cell_below HBj.out k2)
            have x4 := cell_regrown (pw_cell_below HBj.out k4)
            have y1 := cell_regrown (pw_cell_below HBj.out ((cell_of_row W3 G 1 _ _ _ HN3.out).trans (show _ = some (Value.slice (some ⟨b2, 0, none⟩) k c2) from rfl)))
            obtain ⟨Sj, eSj⟩ : ∃ x, sizes Ms j = x := ⟨_, rfl⟩
            obtain ⟨fa, efa⟩ : ∃ x, (g j).1 = x := ⟨_, rfl⟩
            obtain ⟨fc, efc⟩ : ∃ x, (g j).2 = x := ⟨_, rfl⟩
            rw [eSj] at x2 x4 KE
            rw [efa, efc] at x4 KE
            have HKE := Lib.hid KE
            clear hx hfr k2 k4 hrx hrx2 hS RA RB eSj efa efc KE
            go_wp2_with fail
            refine wp_region_quiet_below (by kernel_rfl) (by kernel_rfl) ?_
            repeat (go_big_quiet_step (exact HKE.out _ _))
            refine wpQuiet_nil ?_
            intro _ hw'
            obtain ⟨⟨dq, osq⟩, hw''⟩ := hw'
            subst hw''
            have HBn := Lib.hid (below_then HBj.out HBj.out.size (below_regrown wr dq osq))
            clear HKE x2 x4 y1
            go_wp2
            exact ⟨⟨j + 1, by omega, by go_num, HBn⟩, by simp [intOf]; omega⟩
          · obtain rfl : j = k := by omega
            obtain ⟨i0, hi, hz0, hz1, hz2⟩ := info_parts infoB
            have CM := cut_mid (P := Try.prog) 25 5 .i64 .i64 Try.underlying25 hi 1 hz1 (some ⟨ga, 0, none⟩) Xn ca (P : Int) ((P : Int) + (S : Int) + 9) (by omega) (by omega) (by omega) hca
            have e1 : ((P : Int) + (S : Int) + 9).toNat = P + S + 9 := by omega
            have e2 : ((P : Int)).toNat = P := by omega
            rw [e1, e2, if_neg (show ¬ ca = P by omega), show P + S + 9 - P = S + 9 by omega] at CM
            simp only [Option.map_some, Nat.mul_one, Addr.add_mid, Nat.zero_add] at CM
            have HCM := Lib.hid CM
            have hl9 : ((Y.drop P).take (S + 9)).length = S + 9 := by rw [List.length_take, List.length_drop, EY.out]; omega
            have RD : RdB wr (some ⟨ga, P, none⟩) ((Y.drop P).take (S + 9)) := by
              refine ⟨by rw [hl9]; omega, fun _ => ⟨ga, P, rfl, fun i hi' => ?_⟩⟩
              rw [hl9] at hi'
              obtain ⟨b', o', e', hc'⟩ := (HRX5.out.below HBj.out).2 (by rw [EY.out]; omega)
              have e3 := Option.some.inj e'
              injection e3 with e4 e5
              subst e4 e5
              have := hc' (P + i) (by rw [EY.out]; omega)
              rw [Nat.zero_add] at this
              rw [this]
              simp [List.getD_eq_getElem?_getD, List.getElem?_take, hi', List.getElem?_drop]
            have KO : ∀ d os, Calls Try.prog 12 #[.slice (some ⟨ga, P, none⟩) (S + 9) (ca - P)] (grow (redrawn wr d) os) fun e w'' => e = .returned (.tuple #[.slice none 0 0, .int .i64 30]) ∧ ∃ p : Regrown, w'' = grow (redrawn wr p.d) p.os := fun d os => Calls.regrown_of (by
              have := one_calls (some ⟨ga, P, none⟩) (ca - P) ((Y.drop P).take (S + 9)) (grow (redrawn wr d) os) (RD.below (below_regrown wr d os)) ((HX2b.out.drop P).take _) (by rw [hl9]; omega) (by rw [hl9]; omega)
              rw [hl9, HO1.out] at this
              exact this.mono fun e w' h => ⟨h.2, h.1⟩)
            have HKO := Lib.hid KO
            obtain ⟨b3, hb3, k3⟩ := HT5.out.pcell j (by rw [EN.out]; exact hk)
            obtain ⟨b4, hb4, k4⟩ := HT5.out.lcell j (by rw [EN.out]; exact hk)
            cases hb3
            cases hb4
            have eS2 : sizes Ms j = S := by have h1 := T1.out; have h2 := pos_succ Ms j (by rw [EN.out]; exact hk); rw [EP.out] at h2; unfold sizes; omega
            rw [EP.out] at k3
            rw [eS2] at k4
            obtain ⟨fa, efa⟩ : ∃ x, (g j).1 = x := ⟨_, rfl⟩
            obtain ⟨fc, efc⟩ : ∃ x, (g j).2 = x := ⟨_, rfl⟩
            rw [efa, efc] at k4
            have x3 := cell_regrown (pw_cell_below HBj.out k3)
            have x4 := cell_regrown (pw_cell_below HBj.out k4)
            have HF0 := Lib.hid (below_then (below_then HB1.out HB1.out.size (HT5.out.b.mono (Nat.le_refl _))) (by have := HB1.out.size; have := HT5.out.b.size; omega) HBj.out)
            have hcm := HCM.out
            clear hi hz0 hz1 hz2 CM e1 e2 hl9 RD KO k3 k4 eS2 efa efc
            go_wp2_with fail
            refine wp_region_quiet_below (by kernel_rfl) (by kernel_rfl) ?_
            repeat (go_big_quiet_step (exact HKO.out _ _))
            refine wpQuiet_nil ?_
            intro _ hw'
            obtain ⟨⟨dq, osq⟩, hw''⟩ := hw'
            subst hw''
            have HF := Lib.hid (below_then HF0.out (by have := HF0.out.size; omega) (below_regrown wr dq osq))
            clear HKO x3 x4 hcm
            go_wp2
            go_ret
            exact ⟨rfl, HF.out⟩
      · by_cases h4 : m < P + 4
        · go_wp2
          go_ret
          exact ⟨rfl, HBw.out⟩
        have HJ2 := HJ.out.turn HX.out.2.2.2 m y
        have HX2l : (X.set m y).length = Xn := by rw [List.length_set, EX.out]
        have HBg : Hid (Begins Ms k (X.set m y)) := Lib.hid (by
          rw [HX.out.1]
          exact turned_begins Ms HX.out.2.1 HX.out.2.2.1 k m y (by rw [EN.out]; exact hk) (by rw [EP.out]; omega) HNEXT.out hy HY.out)
        have HO1 : Hid (oneB (((X.set m y).drop P).take (S + 9)) = none) := Lib.hid (by
          have := turned_one Ms HX.out.2.1 HX.out.2.2.1 k m y (by rw [EN.out]; exact hk) (by rw [EP.out]; omega) HNEXT.out hy HY.out
          rw [← HX.out.1, EP.out] at this
          have e : (Ms.getD k []).length = S := by have h1 := T1.out; have h2 := pos_succ Ms k (by rw [EN.out]; exact hk); rw [EP.out] at h2; omega
          rw [e] at this; exact this)
        have HX2b : Hid (Bytes (X.set m y)) := Lib.hid (by
          intro i
          have hbX : Bytes X := by rw [HX.out.1]; exact joinL_bytes Ms HX.out.2.2.1
          by_cases e : i = m
          · subst e; rw [getD_set_eq _ _ _ _ (by rw [EX.out]; exact hm)]; exact hy
          · rw [getD_set_ne _ _ _ _ _ (Ne.symm e)]; exact hbX i)
        obtain ⟨Y, eY⟩ : ∃ Y, X.set m y = Y := ⟨_, rfl⟩
        rw [eY] at HJ2 HX2l HBg HO1 HX2b
        have HJY := Lib.hid HJ2
        have EY := Lib.hid HX2l
        clear HJ2 HX2l eY HY
        go_wp2_with fail
        have HW2 := HJY.out.b
        obtain ⟨W, hW⟩ : ∃ V, w2.setCell ⟨ga, m, none⟩ (.int .u8 y) = V := ⟨_, rfl⟩
        rw [hW] at HJY
        rw [hW]
        clear HW2 hW c5 f5 k3 k4 hxo
        have hYa := HJY.out.a
        rw [EX.out] at hYa
        have rd0 := own_rd (a := some ⟨ga, 0, none⟩) (X := Y) (W := W) (b := w1.heap.size) (c := ca) (by rw [EY.out] at *; exact hYa) (by rw [EY.out]; omega)
        have RX := Lib.hid rd0
        have K9 := through_calls (some ⟨ga, 0, none⟩) ca Y W RX.out.1 HX2b.out (by rw [EY.out]; omega)
        rw [EY.out] at K9
        have HK9 := Lib.hid K9
        clear rd0 K9 hYa
        refine HK9.out.mono ?_
        rintro e W1 ⟨hB2, v1, v2, xs, rfl, hxs, h1, h2, h3⟩
        obtain ⟨a1, c1, rfl⟩ := own_form h1
        obtain ⟨a2, c2, rfl⟩ := own_form h2
        have hxl : xs.length = k := by have := congrArg List.length hxs; rw [List.length_map, upto_length, HBg.out.cnt HX.out.2.1] at this; exact this
        rw [hxl] at h1 h2 ⊢
        have HS := Lib.hid (And.intro h1 (And.intro h2 (And.intro h3 (And.intro hxs hxl))))
        have HT3 := Lib.hid (HJY.out.below hB2)
        have HRX := Lib.hid (RX.out.1.below hB2)
        have HBw1 := Lib.hid hB2
        clear h1 h2 h3 hxs hxl hB2 HK9
        go_wp2_with fail
        have bA := below_alloc1 W1 (.cells #[.slice a1 k c1, .slice a2 k c2] 30)
        have nA := heap_alloc_new W1 (.cells #[.slice a1 k c1, .slice a2 k c2] 30)
        obtain ⟨G, eG⟩ : ∃ G, W1.heap.size = G := ⟨_, rfl⟩
        rw [eG] at nA
        obtain ⟨W2, hW2⟩ : ∃ V, W1.alloc (.cells #[.slice a1 k c1, .slice a2 k c2] 30) = V := ⟨_, rfl⟩
        rw [hW2] at bA nA
        rw [hW2, eG]
        have HT4 := Lib.hid (HT3.out.below bA)
        have HRX4 := Lib.hid (HRX.out.below bA)
        have gaW2 : ga < W2.heap.size := Nat.lt_of_lt_of_le (RX.out.2.2.1 _ rfl).1 (Nat.le_trans HBw1.out.size bA.size)
        have KW : ∀ d os, Calls Try.prog 10 #[.slice (some ⟨ga, 0, none⟩) Xn ca] (grow (redrawn W2 d) os) fun e w'' => e = .returned (.int .i64 (P : Nat)) ∧ ∃ p : Regrown, w'' = grow (redrawn W2 p.d) p.os := fun d os => Calls.regrown_of (by
          have := whole_calls (some ⟨ga, 0, none⟩) ca Y (grow (redrawn W2 d) os) (HRX4.out.below (below_regrown W2 d os)) (fun a ha => by
            obtain rfl := Option.some.inj ha
            exact ⟨Nat.lt_of_lt_of_le gaW2 (below_regrown W2 d os).size, rfl⟩) (fun h => by cases h) HX2b.out (by rw [EY.out]; exact hca) (by rw [EY.out]; omega)
          rw [HBg.out.cnt HX.out.2.1, HBg.out.at HX.out.2.1 k (Nat.le_refl _), EY.out, EP.out] at this
          exact this)
        have m1 : ((k : Int) != (k : Int)) = false := by simp
        have m2 : ((P : Int) != (P : Int)) = false := by simp
        obtain ⟨bq, hbq, kq⟩ := HT4.out.pcell k (by rw [EN.out]; exact hk)
        cases hbq
        rw [EP.out] at kq
        have x1 := cell_regrown kq
        have y0 := cell_regrown ((cell_of_row W2 G 0 _ _ _ nA).trans (show _ = some (Value.slice a1 k c1) from rfl))
        have HA := Lib.hid (And.intro bA (And.intro nA eG))
        have HKW := Lib.hid KW
        clear bA nA hW2 eG kq KW
        refine wp_region_quiet_below (by kernel_rfl) (by kernel_rfl) ?_
        repeat (go_big_quiet_step (exact HKW.out _ _))
        refine wpQuiet_nil ?_
        intro _ hw'
        obtain ⟨⟨dq, osq⟩, hw''⟩ := hw'
        subst hw''
        have hB3 := below_regrown W2 dq osq
        generalize grow (redrawn W2 dq) osq = W3 at *
        have glt : G < W2.heap.size := (Array.getElem?_eq_some_iff.1 HA.out.2.1).1
        have n3 : W3.heap[G]? = some (.cells #[.slice a1 k c1, .slice a2 k c2] 30 (0, 0)) := (hB3.block G glt).trans HA.out.2.1
        have HT5 := Lib.hid (HT4.out.below hB3)
        have HRX5 := Lib.hid (HRX4.out.below hB3)
        have B13 : Below W1.heap.size W1 W3 := HA.out.1.trans (hB3.mono HA.out.1.size)
        have HS5 := Lib.hid (And.intro (own_then HS.out.1 B13) (And.intro (own_then HS.out.2.1 B13) (And.intro (fun x hx => (B13.block _ (Array.getElem?_eq_some_iff.1 (HS.out.2.2.1 x hx)).1).trans (HS.out.2.2.1 x hx)) (And.intro HS.out.2.2.2.1 HS.out.2.2.2.2))))
        have HN3 := Lib.hid n3
        have gaW3 : ga < W3.heap.size := Nat.lt_of_lt_of_le gaW2 hB3.size
        clear n3 hB3 HKW HT4 HRX4 B13 HS HA glt x1 y0 m1 m2 gaW2
        go_wp2
        go_loopw [14] (fun i wr => ∃ j : Nat, j ≤ k ∧ i = .int .i64 j ∧ Hid (Below W3.heap.size W3 wr)) (fun i _ => k - (intOf i).toNat)
        case atStart => exact ⟨0, by omega, rfl, Lib.hid (Below.refl _ _)⟩
        case round =>
          obtain ⟨j, hj, rfl, HBj⟩ := hrel
          by_cases hlt : j < k
          · have hjN : j < Ms.length := by rw [EN.out]; omega
            obtain ⟨x, hx⟩ : ∃ x, xs[j]? = some x := ⟨_, List.getElem?_eq_getElem (by rw [HS5.out.2.2.2.2]; exact hlt)⟩
            have hfr : frameOf x = (pos Ms j, sizes Ms j) := by
              have h8 := congrArg (fun l => l[j]?) HS5.out.2.2.2.1
              simp only [List.getElem?_map, hx, Option.map_some] at h8
              rw [HBg.out.cnt HX.out.2.1] at h8
              have h9 : (upto (frameAt Y) k)[j]? = some (frameAt Y j) := by simp [upto, hlt]
              rw [h9] at h8
              exact (Option.some.inj h8).trans (HBg.out.frame HX.out.2.1 j hlt)
            obtain ⟨xp, xm, xg⟩ := x
            have e1 : xp = pos Ms j := congrArg Prod.fst hfr
            have e2 : xm = sizes Ms j := congrArg Prod.snd hfr
            subst e1 e2
            obtain ⟨b2, hb2, k2, _⟩ := own_at HS5.out.2.1 j hlt (.slice (some ⟨xg, 0, none⟩) (sizes Ms j) (sizes Ms j)) (by rw [List.getElem?_map, hx]; rfl)
            obtain ⟨b4, hb4, k4⟩ := HT5.out.lcell j hjN
            cases hb2
            cases hb4
            have hrx := HS5.out.2.2.1 _ (List.mem_of_getElem? hx)
            have hrx2 : W3.heap[xg]? = some (.cells (bytesV (Ms.getD j [])).toArray 5 (0, 0)) := by rw [← HBg.out.is j hlt]; exact hrx
            have hS := (HX.out.2.1 j hjN).2
            have RA := own_rdb hrx2 (by omega)
            have RB := HT5.out.r j hjN
            have KE : ∀ d os, Calls Try.prog 11 #[.slice (some ⟨xg, 0, none⟩) (sizes Ms j) (sizes Ms j), .slice (g j).1 (sizes Ms j) (g j).2] (grow (redrawn wr d) os) fun e w'' => e = .returned (.bool true) ∧ ∃ p : Regrown, w'' = grow (redrawn wr p.d) p.os := fun d os => Calls.regrown_of (eq_calls _ _ _ _ (Ms.getD j []) _ ((RA.below HBj.out).below (below_regrown wr d os)) ((RB.below HBj.out).below (below_regrown wr d os)))
            have x2 := cell_regrown (pw_cell_below HBj.out k2)
            have x4 := cell_regrown (pw_cell_below HBj.out k4)
            have y1 := cell_regrown (pw_cell_below HBj.out ((cell_of_row W3 G 1 _ _ _ HN3.out).trans (show _ = some (Value.slice (some ⟨b2, 0, none⟩) k c2) from rfl)))
            obtain ⟨Sj, eSj⟩ : ∃ x, sizes Ms j = x := ⟨_, rfl⟩
            obtain ⟨fa, efa⟩ : ∃ x, (g j).1 = x := ⟨_, rfl⟩
            obtain ⟨fc, efc⟩ : ∃ x, (g j).2 = x := ⟨_, rfl⟩
            rw [eSj] at x2 x4 KE
            rw [efa, efc] at x4 KE
            have HKE := Lib.hid KE
            clear hx hfr k2 k4 hrx hrx2 hS RA RB eSj efa efc KE
            go_wp2_with fail
            refine wp_region_quiet_below (by kernel_rfl) (by kernel_rfl) ?_
            repeat (go_big_quiet_step (exact HKE.out _ _))
            refine wpQuiet_nil ?_
            intro _ hw'
            obtain ⟨⟨dq, osq⟩, hw''⟩ := hw'
            subst hw''
            have HBn := Lib.hid (below_then HBj.out HBj.out.size (below_regrown wr dq osq))
            clear HKE x2 x4 y1
            go_wp2
            exact ⟨⟨j + 1, by omega, by go_num, HBn⟩, by simp [intOf]; omega⟩
          · obtain rfl : j = k := by omega
            obtain ⟨i0, hi, hz0, hz1, hz2⟩ := info_parts infoB
            have CM := cut_mid (P := Try.prog) 25 5 .i64 .i64 Try.underlying25 hi 1 hz1 (some ⟨ga, 0, none⟩) Xn ca (P : Int) ((P : Int) + (S : Int) + 9) (by omega) (by omega) (by omega) hca
            have e1 : ((P : Int) + (S : Int) + 9).toNat = P + S + 9 := by omega
            have e2 : ((P : Int)).toNat = P := by omega
            rw [e1, e2, if_neg (show ¬ ca = P by omega), show P + S + 9 - P = S + 9 by omega] at CM
            simp only [Option.map_some, Nat.mul_one, Addr.add_mid, Nat.zero_add] at CM
            have HCM := Lib.hid CM
            have hl9 : ((Y.drop P).take (S + 9)).length = S + 9 := by rw [List.length_take, List.length_drop, EY.out]; omega
            have RD : RdB wr (some ⟨ga, P, none⟩) ((Y.drop P).take (S + 9)) := by
              refine ⟨by rw [hl9]; omega, fun _ => ⟨ga, P, rfl, fun i hi' => ?_⟩⟩
              rw [hl9] at hi'
              obtain ⟨b', o', e', hc'⟩ := (HRX5.out.below HBj.out).2 (by rw [EY.out]; omega)
              have e3 := Option.some.inj e'
              injection e3 with e4 e5
              subst e4 e5
              have := hc' (P + i) (by rw [EY.out]; omega)
              rw [Nat.zero_add] at this
              rw [this]
              simp [List.getD_eq_getElem?_getD, List.getElem?_take, hi', List.getElem?_drop]
            have KO : ∀ d os, Calls Try.prog 12 #[.slice (some ⟨ga, P, none⟩) (S + 9) (ca - P)] (grow (redrawn wr d) os) fun e w'' => e = .returned (.tuple #[.slice none 0 0, .int .i64 30]) ∧ ∃ p : Regrown, w'' = grow (redrawn wr p.d) p.os := fun d os => Calls.regrown_of (by
              have := one_calls (some ⟨ga, P, none⟩) (ca - P) ((Y.drop P).take (S + 9)) (grow (redrawn wr d) os) (RD.below (below_regrown wr d os)) ((HX2b.out.drop P).take _) (by rw [hl9]; omega) (by rw [hl9]; omega)
              rw [hl9, HO1.out] at this
              exact this.mono fun e w' h => ⟨h.2, h.1⟩)
            have HKO := Lib.hid KO
            obtain ⟨b3, hb3, k3⟩ := HT5.out.pcell j (by rw [EN.out]; exact hk)
            obtain ⟨b4, hb4, k4⟩ := HT5.out.lcell j (by rw [EN.out]; exact hk)
            cases hb3
            cases hb4
            have eS2 : sizes Ms j = S := by have h1 := T1.out; have h2 := pos_succ Ms j (by rw [EN.out]; exact hk); rw [EP.out] at h2; unfold sizes; omega
            rw [EP.out] at k3
            rw [eS2] at k4
            obtain ⟨fa, efa⟩ : ∃ x, (g j).1 = x := ⟨_, rfl⟩
            obtain ⟨fc, efc⟩ : ∃ x, (g j).2 = x := ⟨_, rfl⟩
            rw [efa, efc] at k4
            have x3 := cell_regrown (pw_cell_below HBj.out k3)
            have x4 := cell_regrown (pw_cell_below HBj.out k4)
            have HF0 := Lib.hid (below_then (below_then HB1.out HB1.out.size (HT5.out.b.mono (Nat.le_refl _))) (by have := HB1.out.size; have := HT5.out.b.size; omega) HBj.out)
            have hcm := HCM.out
            clear hi hz0 hz1 hz2 CM e1 e2 hl9 RD KO k3 k4 eS2 efa efc
            go_wp2_with fail
            refine wp_region_quiet_below (by kernel_rfl) (by kernel_rfl) ?_
            repeat (go_big_quiet_step (exact HKO.out _ _))
            refine wpQuiet_nil ?_
            intro _ hw'
            obtain ⟨⟨dq, osq⟩, hw''⟩ := hw'
            subst hw''
            have HF := Lib.hid (below_then HF0.out (by have := HF0.out.size; omega) (below_regrown wr dq osq))
            clear HKO x3 x4 hcm
            go_wp2
            go_ret
            exact ⟨rfl, HF.out⟩
end Go.Proofs.Ytbcijdgpaglbnaa.Q
