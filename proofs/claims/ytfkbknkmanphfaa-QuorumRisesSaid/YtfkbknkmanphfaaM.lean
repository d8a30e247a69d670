import Derived.Test.YtfkbknkmanphfaaL
namespace Go.Proofs.Ytfkbknkmanphfaa.Q
open Go.RowKit Go.Proofs.YtfkbknkmanphfaaW.PrintWords Go.Sort
set_option linter.unusedVariables false
set_option linter.unusedSimpArgs false
theorem calls_any {P : Program} {f : Nat} {args : Array Value} {w : World} {r : Int} {Q : World → Prop} (h : Calls P f args w fun e w' => e = .returned (.int .i64 r) ∧ Q w') : Calls P f args w fun e w' => (∃ r, e = .returned (.int .i64 r)) ∧ Q w' :=
  h.mono (fun e w' ⟨h1, h2⟩ => ⟨⟨r, h1⟩, h2⟩)

theorem Acks.only {w w' : World} {a b c : Nat} {ws gs : List Int} {f : Nat → Ak} (h : Acks w a b ws gs f) (ho : Only (fun k => k = c) w w') (hc : a < c) : Acks w' a b ws gs f := by
  have ha := (Array.getElem?_eq_some_iff.1 h.blk).1
  exact ⟨h.sys.keep (fun k hk => ho.block k (by omega) (by omega)), (ho.block a ha (by omega)).trans h.blk⟩
theorem box2 {w : World} {b : Nat} {u v : Value} {t : TypeId} (h : w.heap[b]? = some (.cells #[u, v] t (0, 0))) : w.cell? ⟨b, 0, none⟩ = some u ∧ w.cell? ⟨b, 1, none⟩ = some v ∧ w.frozen? ⟨b, 0, none⟩ = false ∧ w.frozen? ⟨b, 1, none⟩ = false :=
  ⟨(cell_of_row w b 0 _ _ _ h).trans rfl, (cell_of_row w b 1 _ _ _ h).trans rfl, frozen_of_row w b 0 _ _ h, frozen_of_row w b 1 _ _ h⟩

set_option maxRecDepth 100000 in
set_option maxHeartbeats 16000000 in
theorem rises_yes (Aw Ag Ap : Option Addr) (cw cg cp : Nat) (ws gs : List Int) (ps : List Pt) (w : World) (hw : Rd w Aw ws) (hg : Rd w Ag gs) (hp : RdP w Ap ps) (hok : PtsOk ps) (h1 : ws.length < 2147483647) (h2 : gs.length < 2147483647) (h3 : ps.length < 2147483647) (hv : Valid ws gs) :
    Calls Try.prog 4 #[.slice Aw ws.length cw, .slice Ag gs.length cg, .slice Ap ps.length cp] w fun e w' => e = .returned (.bool true) ∧ Below w.heap.size w w' := by
  have HB := Lib.hid (Below.refl w.heap.size w)
  have HW := Lib.hid hw
  have HG := Lib.hid hg
  have HP := Lib.hid hp
  have HOK := Lib.hid hok
  have HV := Lib.hid hv
  clear hw hg hp hok hv
  go_enter Try.func4, Try.ntmps4
  go_wp2_with fail
  refine (long_calls _ (by omega) _).mono ?_
  rintro e wx ⟨rfl, rfl⟩
  go_wp2_with fail
  refine (long_calls _ (by omega) _).mono ?_
  rintro e wx ⟨rfl, rfl⟩
  go_wp2_with fail
  refine (long_calls _ (by omega) _).mono ?_
  rintro e wx ⟨rfl, rfl⟩
  go_wp2_with fail
  refine (lives_calls _).mono ?_
  rintro e w1 ⟨rfl, hB⟩
  replace HB := Lib.hid (below_then HB.out HB.out.size hB)
  clear hB
  go_wp2_with fail
  refine (new_calls Aw Ag cw cg ws gs _ (HW.out.below HB.out) (HG.out.below HB.out)).mono ?_
  rintro e wn ⟨hB, ⟨_, q, rfl, _, hs⟩ | ⟨hv, _⟩⟩
  rotate_left
  · exact absurd HV.out hv
  replace HB := Lib.hid (below_then HB.out HB.out.size hB)
  have HS := Lib.hid hs
  clear hB hs
  go_wp2_with fail
  refine (newAcks_sys q ws gs _ HS.out).mono ?_
  rintro e wa ⟨a, rfl, ha, hA, hB⟩
  have haw : Hid (w.heap.size ≤ a) := Lib.hid (by have := HB.out.size; omega)
  replace HB := Lib.hid (below_then HB.out HB.out.size hB)
  have HA := Lib.hid hA
  clear hB hA ha HS
  have hbox := heap_alloc_new wa (Obj.cells #[Value.int IntKind.u32 0, Value.int IntKind.u32 0] 44)
  have hBx := below_alloc (Below.refl wa.heap.size wa) (Obj.cells #[Value.int IntKind.u32 0, Value.int IntKind.u32 0] 44)
  have hsz : (wa.alloc (Obj.cells #[Value.int IntKind.u32 0, Value.int IntKind.u32 0] 44)).heap.size = wa.heap.size + 1 := by simp
  go_wp2_with fail
  obtain ⟨W, hW⟩ : ∃ W, wa.alloc (Obj.cells #[Value.int IntKind.u32 0, Value.int IntKind.u32 0] 44) = W := ⟨_, rfl⟩
  rw [hW]
  rw [hW] at hbox hBx hsz
  have HA2 := Lib.hid (HA.out.below hBx)
  have HB2 := Lib.hid (below_then HB.out HB.out.size hBx)
  have HBox : Hid (W.heap[wa.heap.size]? = some (.cells #[.int .u32 (bestTo ws gs (fun _ => ⟨false, 0, 0⟩) 7).e, .int .u32 (bestTo ws gs (fun _ => ⟨false, 0, 0⟩) 7).n] 44 (0, 0))) := Lib.hid (by rw [best_init]; exact hbox)
  have HaW : Hid (a < wa.heap.size ∧ w.heap.size ≤ wa.heap.size) := Lib.hid ⟨(Array.getElem?_eq_some_iff.1 HA.out.blk).1, HB.out.size⟩
  have HSZ := Lib.hid hsz
  clear hBx hbox hW HA HB hsz
  go_loopw [13, 14] (fun had t wr => ∃ i : Nat, i ≤ ps.length ∧ t = .int .i64 i ∧ ∃ f : Nat → Ak, had = .bool (bestTo ws gs f 7).s ∧ Hid (Fin ws f) ∧ Hid (Acks wr a q ws gs f) ∧ Hid (wr.heap[wa.heap.size]? = some (.cells #[.int .u32 (bestTo ws gs f 7).e, .int .u32 (bestTo ws gs f 7).n] 44 (0, 0))) ∧ Hid (Below w.heap.size w wr) ∧ Hid (wa.heap.size + 1 ≤ wr.heap.size)) (fun _ t _ => ps.length - (intOf t).toNat)
  case atStart => exact ⟨0, by omega, rfl, fun _ => ⟨false, 0, 0⟩, by rw [best_init], Lib.hid (fun _ _ => rfl), HA2, HBox, HB2, Lib.hid (by have := HSZ.out; omega)⟩
  case round =>
    clear HA2 HBox HB2 HSZ
    obtain ⟨i, hi, rfl, f, rfl, HF, HA, HX, HB, HSZ⟩ := hrel
    by_cases hlt : i < ps.length
    · obtain ⟨pb, po, hAp, hcells⟩ := HP.out.2 (by omega)
      obtain ⟨g0, g1, g2⟩ := hcells i hlt
      have g0 := pw_cell_below HB.out g0
      have g1 := pw_cell_below HB.out g1
      have g2 := pw_cell_below HB.out g2
      have hpk := HOK.out i hlt
      obtain ⟨p, hp⟩ : ∃ x, ps.getD i ⟨0, 0, 0⟩ = x := ⟨_, rfl⟩
      rw [hp] at g0 g1 g2 hpk
      clear hcells hp
      have HPK := Lib.hid hpk
      have HNF := Lib.hid (fun h => never_falls HV.out f p h)
      have HF2 := Lib.hid (HF.out.put p)
      clear hpk
      subst hAp
      go_wp2_with fail
      go_still_tail 11, (by kernel_rfl)
      change wpList _ _ _ _ _ wr.drew
      have kp := put_any a q ws gs f wr.drew (HA.out.below ((Below.refl _ _).drew)) p HPK.out
      have kq := calls_any kp
      have KP := Lib.hid kq
      clear kp kq g0 g1 g2
      go_wp2_with fail
      refine KP.out.mono ?_
      rintro e w1 ⟨⟨r, rfl⟩, hO, hA⟩
      have hlw : wa.heap.size < wr.heap.size := HSZ.out
      have hX1 : w1.heap[wa.heap.size]? = some (.cells #[.int .u32 (bestTo ws gs f 7).e, .int .u32 (bestTo ws gs f 7).n] 44 (0, 0)) := (hO.block wa.heap.size hlw (by have := HaW.out; omega)).trans HX.out
      have hB1 : Below w.heap.size w w1 := ((Only.of_below HB.out.drew).trans hO (fun _ _ e => e)).below (fun k hk e => by subst e; have := haw.out; omega)
      have hZ1 : wa.heap.size < w1.heap.size := Nat.lt_of_lt_of_le hlw hO.size
      have HA1 := Lib.hid hA
      have HX1 := Lib.hid hX1
      have HB1 := Lib.hid hB1
      have HZ1 := Lib.hid hZ1
      clear hO hA hX1 hB1 hZ1 hlw KP HX HB HSZ HA
      go_wp2_with fail
      refine (committed_acks a q _ _ _ w1 HA1.out).mono ?_
      rintro e w2 ⟨rfl, hB⟩
      replace HX1 := Lib.hid ((hB.block _ HZ1.out).trans HX1.out)
      replace HZ1 := Lib.hid (Nat.lt_of_lt_of_le HZ1.out hB.size)
      replace HA1 := Lib.hid (HA1.out.below hB)
      replace HB1 := Lib.hid (below_then HB1.out HB1.out.size hB)
      clear hB
      obtain ⟨f2, hf2⟩ : ∃ x, putX ws f p = x := ⟨_, rfl⟩
      rw [hf2] at HA1 HNF HF2 ⊢
      clear hf2
      obtain ⟨B1, hb1⟩ : ∃ x, bestTo ws gs f 7 = x := ⟨_, rfl⟩
      rw [hb1] at HX1 HNF ⊢
      clear hb1
      have HB2T : Hid (∃ B2, bestTo ws gs f2 7 = B2) := Lib.hid ⟨_, rfl⟩
      obtain ⟨B2, hb2⟩ := HB2T.out
      have HE := Lib.hid hb2
      rw [hb2] at HNF ⊢
      clear hb2 HB2T
      obtain ⟨s1, e1, n1⟩ := B1
      obtain ⟨s2, e2, n2⟩ := B2
      try dsimp only at HNF HX1
      dsimp only
      have HX2 := Lib.hid (heap_alloc_new w2 (Obj.cells #[Value.int .u32 e2, Value.int .u32 n2] 44))
      have hBx := below_alloc (Below.refl w2.heap.size w2) (Obj.cells #[Value.int .u32 e2, Value.int .u32 n2] 44)
      have HZ2 : Hid ((w2.alloc (Obj.cells #[Value.int .u32 e2, Value.int .u32 n2] 44)).heap.size = w2.heap.size + 1) := Lib.hid (by simp)
      obtain ⟨W3, hW3⟩ : ∃ W, w2.alloc (Obj.cells #[Value.int .u32 e2, Value.int .u32 n2] 44) = W := ⟨_, rfl⟩
      rw [hW3] at HX2 hBx HZ2
      have HW3 := Lib.hid hW3
      replace HX1 := Lib.hid ((hBx.block _ HZ1.out).trans HX1.out)
      replace HA1 := Lib.hid (HA1.out.below hBx)
      replace HB1 := Lib.hid (below_then HB1.out HB1.out.size hBx)
      clear hBx hW3
      have HLX : Hid (w2.heap.size < W3.heap.size) := Lib.hid (by rw [HZ2.out]; omega)
      clear HZ2
      cases s1 with
      | false =>
        clear HNF
        cases s2 with
        | false =>
          have HA4 := HA1
          have HX4 := HX1
          have HY4 := HX2
          have HB4 := HB1
          have HL4 := HLX
          clear HA1 HX1 HX2 HB1 HLX
          obtain ⟨x10, x11, f10, f11⟩ := box2 HX4.out
          obtain ⟨x20, x21, _, _⟩ := box2 HY4.out
          have HX5 : Hid (((W3.setCell ⟨wa.heap.size, 0, none⟩ (.int .u32 e2)).setCell ⟨wa.heap.size, 1, none⟩ (.int .u32 n2)).heap[wa.heap.size]? = some (.cells #[.int .u32 e2, .int .u32 n2] 44 (0, 0))) := Lib.hid (by
            rw [heap_setCell_same _ _ _ _ _ _ (heap_setCell_same _ _ _ _ _ _ HX4.out)]; simp)
          have HY5 : Hid (((W3.setCell ⟨wa.heap.size, 0, none⟩ (.int .u32 e2)).setCell ⟨wa.heap.size, 1, none⟩ (.int .u32 n2)).heap[w2.heap.size]? = some (.cells #[.int .u32 e2, .int .u32 n2] 44 (0, 0))) := Lib.hid (by
            rw [heap_setCell_other _ _ _ _ (by have := HZ1.out; simp; omega), heap_setCell_other _ _ _ _ (by have := HZ1.out; simp; omega)]; exact HY4.out)
          have HO5 : Hid (Only (fun k => k = wa.heap.size) W3 ((W3.setCell ⟨wa.heap.size, 0, none⟩ (.int .u32 e2)).setCell ⟨wa.heap.size, 1, none⟩ (.int .u32 n2))) := Lib.hid (((Only.refl (fun k => k = wa.heap.size) W3).setCell (p := ⟨wa.heap.size, 0, none⟩) (.inl rfl) _).setCell (p := ⟨wa.heap.size, 1, none⟩) (.inl rfl) _)
          have HB5 : Hid (Below w.heap.size w ((W3.setCell ⟨wa.heap.size, 0, none⟩ (.int .u32 e2)).setCell ⟨wa.heap.size, 1, none⟩ (.int .u32 n2))) := Lib.hid ((HB4.out.setCell HaW.out.2 _).setCell HaW.out.2 _)
          rw [← HW3.out] at x10 x11 x20 x21 f10 f11
          go_wp2_with fail
          rw [HW3.out]
          obtain ⟨W5, hW5⟩ : ∃ W, (W3.setCell ⟨wa.heap.size, 0, none⟩ (.int .u32 e2)).setCell ⟨wa.heap.size, 1, none⟩ (.int .u32 n2) = W := ⟨_, rfl⟩
          rw [hW5] at HX5 HY5 HO5 HB5 ⊢
          have HA5 := Lib.hid (HA4.out.only HO5.out HaW.out.1)
          have HL5 : Hid (w2.heap.size < W5.heap.size) := Lib.hid (Nat.lt_of_lt_of_le HL4.out HO5.out.size)
          clear hW5 HO5 HX4 HY4 HB4 HA4 HL4 x10 x11 x20 x21 f10 f11
          obtain ⟨P, hP⟩ : ∃ P : Nat → Bool, ∀ i, P i = false := ⟨fun _ => false, fun _ => rfl⟩
          obtain ⟨Q, hQ⟩ : ∃ P : Nat → Bool, ∀ i, P i = false := ⟨fun _ => false, fun _ => rfl⟩
          obtain ⟨R, hR⟩ : ∃ P : Nat → Bool, ∀ i, P i = (f2 i).s := ⟨_, fun _ => rfl⟩
          have HPP := Lib.hid hP
          have HQQ := Lib.hid hQ
          have HRR := Lib.hid hR
          clear hP hQ hR
          go_loopw [17, 18, 19, 20] (fun st ab al t wr => ∃ k : Nat, k ≤ 7 ∧ t = .int .i64 k ∧ st = .int .u8 (setP P k) ∧ ab = .int .u8 (setP Q k) ∧ al = .int .u8 (setP R k) ∧ Hid (Acks wr a q ws gs f2) ∧ Hid (wr.heap[wa.heap.size]? = some (.cells #[.int .u32 e2, .int .u32 n2] 44 (0, 0))) ∧ Hid (wr.heap[w2.heap.size]? = some (.cells #[.int .u32 e2, .int .u32 n2] 44 (0, 0))) ∧ Hid (Below w.heap.size w wr) ∧ Hid (w2.heap.size < wr.heap.size)) (fun _ _ _ t _ => 7 - (intOf t).toNat)
          case atStart => exact ⟨0, by omega, rfl, rfl, rfl, rfl, HA5, HX5, HY5, HB5, HL5⟩
          case round =>
            clear HA5 HX5 HY5 HB5 HL5
            obtain ⟨k, hk, rfl, rfl, rfl, rfl, HA, HX, HY, HB, HL⟩ := hrel
            by_cases hlt7 : k < 7
            · have KO := Lib.hid (of_any a q ws gs f2 wr HA.out HF2.out k (by omega))
              have EP := HPP.out k
              have EQ := HQQ.out k
              have ER := HRR.out k
              have TP : setP P (k + 1) = if P k = true then bits .or .u8 (setP P k) (2 ^ k % 256) else setP P k := rfl
              have TQ : setP Q (k + 1) = if Q k = true then bits .or .u8 (setP Q k) (2 ^ k % 256) else setP Q k := rfl
              have TR : setP R (k + 1) = if R k = true then bits .or .u8 (setP R k) (2 ^ k % 256) else setP R k := rfl
              have bP := setP_bd P k hk
              have bQ := setP_bd Q k hk
              have bR := setP_bd R k hk
              obtain ⟨sp, hsp⟩ : ∃ x, setP P k = x := ⟨_, rfl⟩
              obtain ⟨sq, hsq⟩ : ∃ x, setP Q k = x := ⟨_, rfl⟩
              obtain ⟨sr, hsr⟩ : ∃ x, setP R k = x := ⟨_, rfl⟩
              rw [hsp] at TP bP ⊢
              rw [hsq] at TQ bQ ⊢
              rw [hsr] at TR bR ⊢
              clear hsp hsq hsr
              obtain ⟨y, hy⟩ : ∃ x, f2 k = x := ⟨_, rfl⟩
              rw [hy] at KO ER
              clear hy
              obtain ⟨ys, ye, yn⟩ := y
              dsimp only at ER
              cases ys with
              | false =>
                go_wp2_with fail
                refine KO.out.mono ?_
                rintro e w6 ⟨rfl, hB⟩
                replace HA := Lib.hid (HA.out.below hB)
                replace HX := Lib.hid ((hB.block _ (Nat.lt_trans HZ1.out HL.out)).trans HX.out)
                replace HY := Lib.hid ((hB.block _ HL.out).trans HY.out)
                replace HB := Lib.hid (below_then HB.out HB.out.size hB)
                replace HL := Lib.hid (Nat.lt_of_lt_of_le HL.out hB.size)
                clear hB KO
                have HV6 := Lib.hid (heap_alloc_new w6 (Obj.cells #[Value.int .u32 ye, Value.int .u32 yn] 44))
                have hBx := below_alloc (Below.refl w6.heap.size w6) (Obj.cells #[Value.int .u32 ye, Value.int .u32 yn] 44)
                have HL6 : Hid (w6.heap.size < (w6.alloc (Obj.cells #[Value.int .u32 ye, Value.int .u32 yn] 44)).heap.size) := Lib.hid (by simp)
                obtain ⟨W7, hW7⟩ : ∃ W, w6.alloc (Obj.cells #[Value.int .u32 ye, Value.int .u32 yn] 44) = W := ⟨_, rfl⟩
                rw [hW7] at HV6 hBx HL6
                have HW7 := Lib.hid hW7
                replace HA := Lib.hid (HA.out.below hBx)
                replace HX := Lib.hid ((hBx.block _ (Nat.lt_trans HZ1.out HL.out)).trans HX.out)
                replace HY := Lib.hid ((hBx.block _ HL.out).trans HY.out)
                replace HB := Lib.hid (below_then HB.out HB.out.size hBx)
                replace HL := Lib.hid (Nat.lt_trans HL.out HL6.out)
                clear hBx hW7
                go_wp2
                rw [HW7.out]
                exact ⟨⟨k + 1, by omega, by go_num, by rw [TP, EP]; rfl, by rw [TQ, EQ]; rfl, by rw [TR, ER]; rfl, HA, HX, HY, HB, HL⟩, by simp [intOf]; omega⟩
              | true =>
                go_wp2_with fail
                refine KO.out.mono ?_
                rintro e w6 ⟨rfl, hB⟩
                replace HA := Lib.hid (HA.out.below hB)
                replace HX := Lib.hid ((hB.block _ (Nat.lt_trans HZ1.out HL.out)).trans HX.out)
                replace HY := Lib.hid ((hB.block _ HL.out).trans HY.out)
                replace HB := Lib.hid (below_then HB.out HB.out.size hB)
                replace HL := Lib.hid (Nat.lt_of_lt_of_le HL.out hB.size)
                clear hB KO
                have HV6 := Lib.hid (heap_alloc_new w6 (Obj.cells #[Value.int .u32 ye, Value.int .u32 yn] 44))
                have hBx := below_alloc (Below.refl w6.heap.size w6) (Obj.cells #[Value.int .u32 ye, Value.int .u32 yn] 44)
                have HL6 : Hid (w6.heap.size < (w6.alloc (Obj.cells #[Value.int .u32 ye, Value.int .u32 yn] 44)).heap.size) := Lib.hid (by simp)
                obtain ⟨W7, hW7⟩ : ∃ W, w6.alloc (Obj.cells #[Value.int .u32 ye, Value.int .u32 yn] 44) = W := ⟨_, rfl⟩
                rw [hW7] at HV6 hBx HL6
                have HW7 := Lib.hid hW7
                replace HA := Lib.hid (HA.out.below hBx)
                replace HX := Lib.hid ((hBx.block _ (Nat.lt_trans HZ1.out HL.out)).trans HX.out)
                replace HY := Lib.hid ((hBx.block _ HL.out).trans HY.out)
                replace HB := Lib.hid (below_then HB.out HB.out.size hBx)
                replace HL := Lib.hid (Nat.lt_trans HL.out HL6.out)
                clear hBx hW7
                go_wp2
                rw [HW7.out]
                exact ⟨⟨k + 1, by omega, by go_num, by rw [TP, EP]; rfl, by rw [TQ, EQ]; rfl, by rw [TR, ER]; rfl, HA, HX, HY, HB, HL⟩, by simp [intOf]; omega⟩
            · obtain rfl : k = 7 := by omega
              have bP := Lib.hid (setP_bd P 7 (by omega))
              have bQ := Lib.hid (setP_bd Q 7 (by omega))
              have bR := Lib.hid (setP_bd R 7 (by omega))
              have q1 : hasB ws gs (inS (setP R 7)) = false := above_none HV.out f2 R (fun i _ hi => by rw [HRR.out i] at hi; exact ⟨hi, fun h => by rw [HE.out] at h; simp at h⟩)
              have Q1 := Lib.hid q1
              clear q1
              go_wp2_with fail
              refine (calls_eq (has_sys q ws gs _ HA.out.sys.sys (setP R 7) bR.out) (congrArg Value.bool (Q1.out))).out.mono ?_
              rintro e wf1 ⟨rfl, hB⟩
              replace HA := Lib.hid (HA.out.below hB)
              replace HX := Lib.hid ((hB.block _ (Nat.lt_trans HZ1.out HL.out)).trans HX.out)
              replace HY := Lib.hid ((hB.block _ HL.out).trans HY.out)
              replace HB := Lib.hid (below_then HB.out HB.out.size hB)
              replace HL := Lib.hid (Nat.lt_of_lt_of_le HL.out hB.size)
              clear hB
              go_wp2
              exact ⟨⟨i + 1, by omega, by go_num, f2, by rw [HE.out], HF2, HA, by rw [HE.out]; exact HX, HB, Lib.hid (by have := HL.out; have := HZ1.out; omega)⟩, by simp [intOf]; omega⟩
        | true =>
          have HA4 := HA1
          have HX4 := HX1
          have HY4 := HX2
          have HB4 := HB1
          have HL4 := HLX
          clear HA1 HX1 HX2 HB1 HLX
          obtain ⟨x10, x11, f10, f11⟩ := box2 HX4.out
          obtain ⟨x20, x21, _, _⟩ := box2 HY4.out
          have HX5 : Hid (((W3.setCell ⟨wa.heap.size, 0, none⟩ (.int .u32 e2)).setCell ⟨wa.heap.size, 1, none⟩ (.int .u32 n2)).heap[wa.heap.size]? = some (.cells #[.int .u32 e2, .int .u32 n2] 44 (0, 0))) := Lib.hid (by
            rw [heap_setCell_same _ _ _ _ _ _ (heap_setCell_same _ _ _ _ _ _ HX4.out)]; simp)
          have HY5 : Hid (((W3.setCell ⟨wa.heap.size, 0, none⟩ (.int .u32 e2)).setCell ⟨wa.heap.size, 1, none⟩ (.int .u32 n2)).heap[w2.heap.size]? = some (.cells #[.int .u32 e2, .int .u32 n2] 44 (0, 0))) := Lib.hid (by
            rw [heap_setCell_other _ _ _ _ (by have := HZ1.out; simp; omega), heap_setCell_other _ _ _ _ (by have := HZ1.out; simp; omega)]; exact HY4.out)
          have HO5 : Hid (Only (fun k => k = wa.heap.size) W3 ((W3.setCell ⟨wa.heap.size, 0, none⟩ (.int .u32 e2)).setCell ⟨wa.heap.size, 1, none⟩ (.int .u32 n2))) := Lib.hid (((Only.refl (fun k => k = wa.heap.size) W3).setCell (p := ⟨wa.heap.size, 0, none⟩) (.inl rfl) _).setCell (p := ⟨wa.heap.size, 1, none⟩) (.inl rfl) _)
          have HB5 : Hid (Below w.heap.size w ((W3.setCell ⟨wa.heap.size, 0, none⟩ (.int .u32 e2)).setCell ⟨wa.heap.size, 1, none⟩ (.int .u32 n2))) := Lib.hid ((HB4.out.setCell HaW.out.2 _).setCell HaW.out.2 _)
          rw [← HW3.out] at x10 x11 x20 x21 f10 f11
          go_wp2_with fail
          rw [HW3.out]
          obtain ⟨W5, hW5⟩ : ∃ W, (W3.setCell ⟨wa.heap.size, 0, none⟩ (.int .u32 e2)).setCell ⟨wa.heap.size, 1, none⟩ (.int .u32 n2) = W := ⟨_, rfl⟩
          rw [hW5] at HX5 HY5 HO5 HB5 ⊢
          have HA5 := Lib.hid (HA4.out.only HO5.out HaW.out.1)
          have HL5 : Hid (w2.heap.size < W5.heap.size) := Lib.hid (Nat.lt_of_lt_of_le HL4.out HO5.out.size)
          clear hW5 HO5 HX4 HY4 HB4 HA4 HL4 x10 x11 x20 x21 f10 f11
          obtain ⟨P, hP⟩ : ∃ P : Nat → Bool, ∀ i, P i = ((f2 i).s && decide (0 ≤ cmpZ (f2 i).e (f2 i).n e2 n2)) := ⟨_, fun _ => rfl⟩
          obtain ⟨Q, hQ⟩ : ∃ P : Nat → Bool, ∀ i, P i = ((f2 i).s && decide (0 < cmpZ (f2 i).e (f2 i).n e2 n2)) := ⟨_, fun _ => rfl⟩
          obtain ⟨R, hR⟩ : ∃ P : Nat → Bool, ∀ i, P i = (f2 i).s := ⟨_, fun _ => rfl⟩
          have HPP := Lib.hid hP
          have HQQ := Lib.hid hQ
          have HRR := Lib.hid hR
          clear hP hQ hR
          go_loopw [17, 18, 19, 20] (fun st ab al t wr => ∃ k : Nat, k ≤ 7 ∧ t = .int .i64 k ∧ st = .int .u8 (setP P k) ∧ ab = .int .u8 (setP Q k) ∧ al = .int .u8 (setP R k) ∧ Hid (Acks wr a q ws gs f2) ∧ Hid (wr.heap[wa.heap.size]? = some (.cells #[.int .u32 e2, .int .u32 n2] 44 (0, 0))) ∧ Hid (wr.heap[w2.heap.size]? = some (.cells #[.int .u32 e2, .int .u32 n2] 44 (0, 0))) ∧ Hid (Below w.heap.size w wr) ∧ Hid (w2.heap.size < wr.heap.size)) (fun _ _ _ t _ => 7 - (intOf t).toNat)
          case atStart => exact ⟨0, by omega, rfl, rfl, rfl, rfl, HA5, HX5, HY5, HB5, HL5⟩
          case round =>
            clear HA5 HX5 HY5 HB5 HL5
            obtain ⟨k, hk, rfl, rfl, rfl, rfl, HA, HX, HY, HB, HL⟩ := hrel
            by_cases hlt7 : k < 7
            · have KO := Lib.hid (of_any a q ws gs f2 wr HA.out HF2.out k (by omega))
              have EP := HPP.out k
              have EQ := HQQ.out k
              have ER := HRR.out k
              have TP : setP P (k + 1) = if P k = true then bits .or .u8 (setP P k) (2 ^ k % 256) else setP P k := rfl
              have TQ : setP Q (k + 1) = if Q k = true then bits .or .u8 (setP Q k) (2 ^ k % 256) else setP Q k := rfl
              have TR : setP R (k + 1) = if R k = true then bits .or .u8 (setP R k) (2 ^ k % 256) else setP R k := rfl
              have bP := setP_bd P k hk
              have bQ := setP_bd Q k hk
              have bR := setP_bd R k hk
              obtain ⟨sp, hsp⟩ : ∃ x, setP P k = x := ⟨_, rfl⟩
              obtain ⟨sq, hsq⟩ : ∃ x, setP Q k = x := ⟨_, rfl⟩
              obtain ⟨sr, hsr⟩ : ∃ x, setP R k = x := ⟨_, rfl⟩
              rw [hsp] at TP bP ⊢
              rw [hsq] at TQ bQ ⊢
              rw [hsr] at TR bR ⊢
              clear hsp hsq hsr
              obtain ⟨y, hy⟩ : ∃ x, f2 k = x := ⟨_, rfl⟩
              rw [hy] at KO EP EQ ER
              clear hy
              obtain ⟨ys, ye, yn⟩ := y
              dsimp only at EP EQ ER
              cases ys with
              | false =>
                simp only [Bool.false_and] at EP EQ
                go_wp2_with fail
                refine KO.out.mono ?_
                rintro e w6 ⟨rfl, hB⟩
                replace HA := Lib.hid (HA.out.below hB)
                replace HX := Lib.hid ((hB.block _ (Nat.lt_trans HZ1.out HL.out)).trans HX.out)
                replace HY := Lib.hid ((hB.block _ HL.out).trans HY.out)
                replace HB := Lib.hid (below_then HB.out HB.out.size hB)
                replace HL := Lib.hid (Nat.lt_of_lt_of_le HL.out hB.size)
                clear hB KO
                have HV6 := Lib.hid (heap_alloc_new w6 (Obj.cells #[Value.int .u32 ye, Value.int .u32 yn] 44))
                have hBx := below_alloc (Below.refl w6.heap.size w6) (Obj.cells #[Value.int .u32 ye, Value.int .u32 yn] 44)
                have HL6 : Hid (w6.heap.size < (w6.alloc (Obj.cells #[Value.int .u32 ye, Value.int .u32 yn] 44)).heap.size) := Lib.hid (by simp)
                obtain ⟨W7, hW7⟩ : ∃ W, w6.alloc (Obj.cells #[Value.int .u32 ye, Value.int .u32 yn] 44) = W := ⟨_, rfl⟩
                rw [hW7] at HV6 hBx HL6
                have HW7 := Lib.hid hW7
                replace HA := Lib.hid (HA.out.below hBx)
                replace HX := Lib.hid ((hBx.block _ (Nat.lt_trans HZ1.out HL.out)).trans HX.out)
                replace HY := Lib.hid ((hBx.block _ HL.out).trans HY.out)
                replace HB := Lib.hid (below_then HB.out HB.out.size hBx)
                replace HL := Lib.hid (Nat.lt_trans HL.out HL6.out)
                clear hBx hW7
                go_wp2
                rw [HW7.out]
                exact ⟨⟨k + 1, by omega, by go_num, by rw [TP, EP]; rfl, by rw [TQ, EQ]; rfl, by rw [TR, ER]; rfl, HA, HX, HY, HB, HL⟩, by simp [intOf]; omega⟩
              | true =>
                simp only [Bool.true_and] at EP EQ
                by_cases hc : 0 ≤ cmpZ ye yn e2 n2
                · by_cases hd : 0 < cmpZ ye yn e2 n2
                  · rw [decide_eq_true hc] at EP
                    rw [decide_eq_true hd] at EQ
                    go_wp2_with fail
                    refine KO.out.mono ?_
                    rintro e w6 ⟨rfl, hB⟩
                    replace HA := Lib.hid (HA.out.below hB)
                    replace HX := Lib.hid ((hB.block _ (Nat.lt_trans HZ1.out HL.out)).trans HX.out)
                    replace HY := Lib.hid ((hB.block _ HL.out).trans HY.out)
                    replace HB := Lib.hid (below_then HB.out HB.out.size hB)
                    replace HL := Lib.hid (Nat.lt_of_lt_of_le HL.out hB.size)
                    clear hB KO
                    have HV6 := Lib.hid (heap_alloc_new w6 (Obj.cells #[Value.int .u32 ye, Value.int .u32 yn] 44))
                    have hBx := below_alloc (Below.refl w6.heap.size w6) (Obj.cells #[Value.int .u32 ye, Value.int .u32 yn] 44)
                    have HL6 : Hid (w6.heap.size < (w6.alloc (Obj.cells #[Value.int .u32 ye, Value.int .u32 yn] 44)).heap.size) := Lib.hid (by simp)
                    obtain ⟨W7, hW7⟩ : ∃ W, w6.alloc (Obj.cells #[Value.int .u32 ye, Value.int .u32 yn] 44) = W := ⟨_, rfl⟩
                    rw [hW7] at HV6 hBx HL6
                    have HW7 := Lib.hid hW7
                    replace HA := Lib.hid (HA.out.below hBx)
                    replace HX := Lib.hid ((hBx.block _ (Nat.lt_trans HZ1.out HL.out)).trans HX.out)
                    replace HY := Lib.hid ((hBx.block _ HL.out).trans HY.out)
                    replace HB := Lib.hid (below_then HB.out HB.out.size hBx)
                    replace HL := Lib.hid (Nat.lt_trans HL.out HL6.out)
                    clear hBx hW7
                    obtain ⟨y0, y1, _, _⟩ := box2 HV6.out
                    obtain ⟨z0, z1, _, _⟩ := box2 HY.out
                    rw [← HW7.out] at y0 y1 z0 z1
                    go_wp2_with fail
                    rw [HW7.out]
                    clear HW7
                    refine (cmpR_calls ye yn e2 n2 W7).mono ?_
                    rintro e w8 ⟨rfl, hB⟩
                    replace HA := Lib.hid (HA.out.below hB)
                    replace HX := Lib.hid ((hB.block _ (Nat.lt_trans HZ1.out HL.out)).trans HX.out)
                    replace HY := Lib.hid ((hB.block _ HL.out).trans HY.out)
                    replace HV6 := Lib.hid ((hB.block _ HL6.out).trans HV6.out)
                    replace HB := Lib.hid (below_then HB.out HB.out.size hB)
                    replace HL := Lib.hid (Nat.lt_of_lt_of_le HL.out hB.size)
                    replace HL6 := Lib.hid (Nat.lt_of_lt_of_le HL6.out hB.size)
                    clear hB
                    clear y0 y1 z0 z1
                    obtain ⟨y0, y1, _, _⟩ := box2 HV6.out
                    obtain ⟨z0, z1, _, _⟩ := box2 HY.out
                    go_wp2_with fail
                    refine (cmpR_calls ye yn e2 n2 w8).mono ?_
                    rintro e w9 ⟨rfl, hB⟩
                    replace HA := Lib.hid (HA.out.below hB)
                    replace HX := Lib.hid ((hB.block _ (Nat.lt_trans HZ1.out HL.out)).trans HX.out)
                    replace HY := Lib.hid ((hB.block _ HL.out).trans HY.out)
                    replace HV6 := Lib.hid ((hB.block _ HL6.out).trans HV6.out)
                    replace HB := Lib.hid (below_then HB.out HB.out.size hB)
                    replace HL := Lib.hid (Nat.lt_of_lt_of_le HL.out hB.size)
                    replace HL6 := Lib.hid (Nat.lt_of_lt_of_le HL6.out hB.size)
                    clear hB
                    clear y0 y1 z0 z1
                    go_wp2
                    exact ⟨⟨k + 1, by omega, by go_num, by rw [TP, EP]; rfl, by rw [TQ, EQ]; rfl, by rw [TR, ER]; rfl, HA, HX, HY, HB, HL⟩, by simp [intOf]; omega⟩
                  · rw [decide_eq_true hc] at EP
                    rw [decide_eq_false hd] at EQ
                    go_wp2_with fail
                    refine KO.out.mono ?_
                    rintro e w6 ⟨rfl, hB⟩
                    replace HA := Lib.hid (HA.out.below hB)
                    replace HX := Lib.hid ((hB.block _ (Nat.lt_trans HZ1.out HL.out)).trans HX.out)
                    replace HY := Lib.hid ((hB.block _ HL.out).trans HY.out)
                    replace HB := Lib.hid (below_then HB.out HB.out.size hB)
                    replace HL := Lib.hid (Nat.lt_of_lt_of_le HL.out hB.size)
                    clear hB KO
                    have HV6 := Lib.hid (heap_alloc_new w6 (Obj.cells #[Value.int .u32 ye, Value.int .u32 yn] 44))
                    have hBx := below_alloc (Below.refl w6.heap.size w6) (Obj.cells #[Value.int .u32 ye, Value.int .u32 yn] 44)
                    have HL6 : Hid (w6.heap.size < (w6.alloc (Obj.cells #[Value.int .u32 ye, Value.int .u32 yn] 44)).heap.size) := Lib.hid (by simp)
                    obtain ⟨W7, hW7⟩ : ∃ W, w6.alloc (Obj.cells #[Value.int .u32 ye, Value.int .u32 yn] 44) = W := ⟨_, rfl⟩
                    rw [hW7] at HV6 hBx HL6
                    have HW7 := Lib.hid hW7
                    replace HA := Lib.hid (HA.out.below hBx)
                    replace HX := Lib.hid ((hBx.block _ (Nat.lt_trans HZ1.out HL.out)).trans HX.out)
                    replace HY := Lib.hid ((hBx.block _ HL.out).trans HY.out)
                    replace HB := Lib.hid (below_then HB.out HB.out.size hBx)
                    replace HL := Lib.hid (Nat.lt_trans HL.out HL6.out)
                    clear hBx hW7
                    obtain ⟨y0, y1, _, _⟩ := box2 HV6.out
                    obtain ⟨z0, z1, _, _⟩ := box2 HY.out
                    rw [← HW7.out] at y0 y1 z0 z1
                    go_wp2_with fail
                    rw [HW7.out]
                    clear HW7
                    refine (cmpR_calls ye yn e2 n2 W7).mono ?_
                    rintro e w8 ⟨rfl, hB⟩
                    replace HA := Lib.hid (HA.out.below hB)
                    replace HX := Lib.hid ((hB.block _ (Nat.lt_trans HZ1.out HL.out)).trans HX.out)
                    replace HY := Lib.hid ((hB.block _ HL.out).trans HY.out)
                    replace HV6 := Lib.hid ((hB.block _ HL6.out).trans HV6.out)
                    replace HB := Lib.hid (below_then HB.out HB.out.size hB)
                    replace HL := Lib.hid (Nat.lt_of_lt_of_le HL.out hB.size)
                    replace HL6 := Lib.hid (Nat.lt_of_lt_of_le HL6.out hB.size)
                    clear hB
                    clear y0 y1 z0 z1
                    obtain ⟨y0, y1, _, _⟩ := box2 HV6.out
                    obtain ⟨z0, z1, _, _⟩ := box2 HY.out
                    go_wp2_with fail
                    refine (cmpR_calls ye yn e2 n2 w8).mono ?_
                    rintro e w9 ⟨rfl, hB⟩
                    replace HA := Lib.hid (HA.out.below hB)
                    replace HX := Lib.hid ((hB.block _ (Nat.lt_trans HZ1.out HL.out)).trans HX.out)
                    replace HY := Lib.hid ((hB.block _ HL.out).trans HY.out)
                    replace HV6 := Lib.hid ((hB.block _ HL6.out).trans HV6.out)
                    replace HB := Lib.hid (below_then HB.out HB.out.size hB)
                    replace HL := Lib.hid (Nat.lt_of_lt_of_le HL.out hB.size)
                    replace HL6 := Lib.hid (Nat.lt_of_lt_of_le HL6.out hB.size)
                    clear hB
                    clear y0 y1 z0 z1
                    go_wp2
                    exact ⟨⟨k + 1, by omega, by go_num, by rw [TP, EP]; rfl, by rw [TQ, EQ]; rfl, by rw [TR, ER]; rfl, HA, HX, HY, HB, HL⟩, by simp [intOf]; omega⟩
                · have hd : ¬ 0 < cmpZ ye yn e2 n2 := by omega
                  rw [decide_eq_false hc] at EP
                  rw [decide_eq_false hd] at EQ
                  go_wp2_with fail
                  refine KO.out.mono ?_
                  rintro e w6 ⟨rfl, hB⟩
                  replace HA := Lib.hid (HA.out.below hB)
                  replace HX := Lib.hid ((hB.block _ (Nat.lt_trans HZ1.out HL.out)).trans HX.out)
                  replace HY := Lib.hid ((hB.block _ HL.out).trans HY.out)
                  replace HB := Lib.hid (below_then HB.out HB.out.size hB)
                  replace HL := Lib.hid (Nat.lt_of_lt_of_le HL.out hB.size)
                  clear hB KO
                  have HV6 := Lib.hid (heap_alloc_new w6 (Obj.cells #[Value.int .u32 ye, Value.int .u32 yn] 44))
                  have hBx := below_alloc (Below.refl w6.heap.size w6) (Obj.cells #[Value.int .u32 ye, Value.int .u32 yn] 44)
                  have HL6 : Hid (w6.heap.size < (w6.alloc (Obj.cells #[Value.int .u32 ye, Value.int .u32 yn] 44)).heap.size) := Lib.hid (by simp)
                  obtain ⟨W7, hW7⟩ : ∃ W, w6.alloc (Obj.cells #[Value.int .u32 ye, Value.int .u32 yn] 44) = W := ⟨_, rfl⟩
                  rw [hW7] at HV6 hBx HL6
                  have HW7 := Lib.hid hW7
                  replace HA := Lib.hid (HA.out.below hBx)
                  replace HX := Lib.hid ((hBx.block _ (Nat.lt_trans HZ1.out HL.out)).trans HX.out)
                  replace HY := Lib.hid ((hBx.block _ HL.out).trans HY.out)
                  replace HB := Lib.hid (below_then HB.out HB.out.size hBx)
                  replace HL := Lib.hid (Nat.lt_trans HL.out HL6.out)
                  clear hBx hW7
                  obtain ⟨y0, y1, _, _⟩ := box2 HV6.out
                  obtain ⟨z0, z1, _, _⟩ := box2 HY.out
                  rw [← HW7.out] at y0 y1 z0 z1
                  go_wp2_with fail
                  rw [HW7.out]
                  clear HW7
                  refine (cmpR_calls ye yn e2 n2 W7).mono ?_
                  rintro e w8 ⟨rfl, hB⟩
                  replace HA := Lib.hid (HA.out.below hB)
                  replace HX := Lib.hid ((hB.block _ (Nat.lt_trans HZ1.out HL.out)).trans HX.out)
                  replace HY := Lib.hid ((hB.block _ HL.out).trans HY.out)
                  replace HV6 := Lib.hid ((hB.block _ HL6.out).trans HV6.out)
                  replace HB := Lib.hid (below_then HB.out HB.out.size hB)
                  replace HL := Lib.hid (Nat.lt_of_lt_of_le HL.out hB.size)
                  replace HL6 := Lib.hid (Nat.lt_of_lt_of_le HL6.out hB.size)
                  clear hB
                  clear y0 y1 z0 z1
                  obtain ⟨y0, y1, _, _⟩ := box2 HV6.out
                  obtain ⟨z0, z1, _, _⟩ := box2 HY.out
                  go_wp2_with fail
                  refine (cmpR_calls ye yn e2 n2 w8).mono ?_
                  rintro e w9 ⟨rfl, hB⟩
                  replace HA := Lib.hid (HA.out.below hB)
                  replace HX := Lib.hid ((hB.block _ (Nat.lt_trans HZ1.out HL.out)).trans HX.out)
                  replace HY := Lib.hid ((hB.block _ HL.out).trans HY.out)
                  replace HV6 := Lib.hid ((hB.block _ HL6.out).trans HV6.out)
                  replace HB := Lib.hid (below_then HB.out HB.out.size hB)
                  replace HL := Lib.hid (Nat.lt_of_lt_of_le HL.out hB.size)
                  replace HL6 := Lib.hid (Nat.lt_of_lt_of_le HL6.out hB.size)
                  clear hB
                  clear y0 y1 z0 z1
                  go_wp2
                  exact ⟨⟨k + 1, by omega, by go_num, by rw [TP, EP]; rfl, by rw [TQ, EQ]; rfl, by rw [TR, ER]; rfl, HA, HX, HY, HB, HL⟩, by simp [intOf]; omega⟩
            · obtain rfl : k = 7 := by omega
              have bP := Lib.hid (setP_bd P 7 (by omega))
              have bQ := Lib.hid (setP_bd Q 7 (by omega))
              have bR := Lib.hid (setP_bd R 7 (by omega))
              have q1 : hasB ws gs (inS (setP P 7)) = true := committed_has HV.out f2 (by rw [HE.out]) P (fun i _ => by rw [HE.out]; exact HPP.out i)
              have q2 : hasB ws gs (inS (setP Q 7)) = false := above_none HV.out f2 Q (fun i _ hi => by rw [HE.out]; rw [HQQ.out i] at hi; simp only [Bool.and_eq_true, decide_eq_true_eq] at hi; exact ⟨hi.1, fun _ => hi.2⟩)
              have q3 : hasB ws gs (inS (bits .andNot .u8 127 (setP P 7))) = false := not_both HV.out _ bP.out.1 bP.out.2 q1
              have Q1 := Lib.hid q1
              have Q2 := Lib.hid q2
              have Q3 := Lib.hid q3
              clear q1 q2 q3
              go_wp2_with fail
              refine (calls_eq (has_sys q ws gs _ HA.out.sys.sys (setP P 7) bP.out) (congrArg Value.bool (Q1.out))).out.mono ?_
              rintro e wf1 ⟨rfl, hB⟩
              replace HA := Lib.hid (HA.out.below hB)
              replace HX := Lib.hid ((hB.block _ (Nat.lt_trans HZ1.out HL.out)).trans HX.out)
              replace HY := Lib.hid ((hB.block _ HL.out).trans HY.out)
              replace HB := Lib.hid (below_then HB.out HB.out.size hB)
              replace HL := Lib.hid (Nat.lt_of_lt_of_le HL.out hB.size)
              clear hB
              go_wp2_with fail
              refine (calls_eq (has_sys q ws gs _ HA.out.sys.sys (setP Q 7) bQ.out) (congrArg Value.bool (Q2.out))).out.mono ?_
              rintro e wf2 ⟨rfl, hB⟩
              replace HA := Lib.hid (HA.out.below hB)
              replace HX := Lib.hid ((hB.block _ (Nat.lt_trans HZ1.out HL.out)).trans HX.out)
              replace HY := Lib.hid ((hB.block _ HL.out).trans HY.out)
              replace HB := Lib.hid (below_then HB.out HB.out.size hB)
              replace HL := Lib.hid (Nat.lt_of_lt_of_le HL.out hB.size)
              clear hB
              go_wp2_with fail
              refine (calls_eq (has_sys q ws gs _ HA.out.sys.sys (bits .andNot .u8 127 (setP P 7)) ⟨bits_lo_u8 _ _ _, bits_hi_u8 _ _ _⟩) (congrArg Value.bool (Q3.out))).out.mono ?_
              rintro e wf3 ⟨rfl, hB⟩
              replace HA := Lib.hid (HA.out.below hB)
              replace HX := Lib.hid ((hB.block _ (Nat.lt_trans HZ1.out HL.out)).trans HX.out)
              replace HY := Lib.hid ((hB.block _ HL.out).trans HY.out)
              replace HB := Lib.hid (below_then HB.out HB.out.size hB)
              replace HL := Lib.hid (Nat.lt_of_lt_of_le HL.out hB.size)
              clear hB
              go_wp2
              exact ⟨⟨i + 1, by omega, by go_num, f2, by rw [HE.out], HF2, HA, by rw [HE.out]; exact HX, HB, Lib.hid (by have := HL.out; have := HZ1.out; omega)⟩, by simp [intOf]; omega⟩
      | true =>
        obtain ⟨rfl, hge⟩ := HNF.out rfl
        have HGE := Lib.hid hge
        clear hge HNF
        have hv : decide (cmpZ e2 n2 e1 n1 < 0) = false := by simpa using HGE.out
        obtain ⟨x10, x11, _, _⟩ := box2 HX1.out
        obtain ⟨x20, x21, _, _⟩ := box2 HX2.out
        rw [← HW3.out] at x10 x11 x20 x21
        go_wp2_with fail
        rw [HW3.out]
        clear HW3
        refine (cmpR_calls e2 n2 e1 n1 W3).mono ?_
        rintro e W4 ⟨rfl, hB⟩
        have HA4 := Lib.hid (HA1.out.below hB)
        have HX4 := Lib.hid ((hB.block _ (Nat.lt_trans HZ1.out HLX.out)).trans HX1.out)
        have HY4 := Lib.hid ((hB.block _ HLX.out).trans HX2.out)
        have HB4 := Lib.hid (below_then HB1.out HB1.out.size hB)
        have HL4 := Lib.hid (Nat.lt_of_lt_of_le HLX.out hB.size)
        clear hB HA1 HX1 HX2 HB1 HLX x10 x11 x20 x21
        obtain ⟨x10, x11, f10, f11⟩ := box2 HX4.out
        obtain ⟨x20, x21, _, _⟩ := box2 HY4.out
        have HX5 : Hid (((W4.setCell ⟨wa.heap.size, 0, none⟩ (.int .u32 e2)).setCell ⟨wa.heap.size, 1, none⟩ (.int .u32 n2)).heap[wa.heap.size]? = some (.cells #[.int .u32 e2, .int .u32 n2] 44 (0, 0))) := Lib.hid (by
          rw [heap_setCell_same _ _ _ _ _ _ (heap_setCell_same _ _ _ _ _ _ HX4.out)]; simp)
        have HY5 : Hid (((W4.setCell ⟨wa.heap.size, 0, none⟩ (.int .u32 e2)).setCell ⟨wa.heap.size, 1, none⟩ (.int .u32 n2)).heap[w2.heap.size]? = some (.cells #[.int .u32 e2, .int .u32 n2] 44 (0, 0))) := Lib.hid (by
          rw [heap_setCell_other _ _ _ _ (by have := HZ1.out; simp; omega), heap_setCell_other _ _ _ _ (by have := HZ1.out; simp; omega)]; exact HY4.out)
        have HO5 : Hid (Only (fun k => k = wa.heap.size) W4 ((W4.setCell ⟨wa.heap.size, 0, none⟩ (.int .u32 e2)).setCell ⟨wa.heap.size, 1, none⟩ (.int .u32 n2))) := Lib.hid (((Only.refl (fun k => k = wa.heap.size) W4).setCell (p := ⟨wa.heap.size, 0, none⟩) (.inl rfl) _).setCell (p := ⟨wa.heap.size, 1, none⟩) (.inl rfl) _)
        have HB5 : Hid (Below w.heap.size w ((W4.setCell ⟨wa.heap.size, 0, none⟩ (.int .u32 e2)).setCell ⟨wa.heap.size, 1, none⟩ (.int .u32 n2))) := Lib.hid ((HB4.out.setCell HaW.out.2 _).setCell HaW.out.2 _)
        go_wp2_with fail
        obtain ⟨W5, hW5⟩ : ∃ W, (W4.setCell ⟨wa.heap.size, 0, none⟩ (.int .u32 e2)).setCell ⟨wa.heap.size, 1, none⟩ (.int .u32 n2) = W := ⟨_, rfl⟩
        rw [hW5] at HX5 HY5 HO5 HB5 ⊢
        have HA5 := Lib.hid (HA4.out.only HO5.out HaW.out.1)
        have HL5 : Hid (w2.heap.size < W5.heap.size) := Lib.hid (Nat.lt_of_lt_of_le HL4.out HO5.out.size)
        clear hW5 HO5 HX4 HY4 HB4 HA4 HL4 x10 x11 x20 x21 f10 f11
        obtain ⟨P, hP⟩ : ∃ P : Nat → Bool, ∀ i, P i = ((f2 i).s && decide (0 ≤ cmpZ (f2 i).e (f2 i).n e2 n2)) := ⟨_, fun _ => rfl⟩
        obtain ⟨Q, hQ⟩ : ∃ P : Nat → Bool, ∀ i, P i = ((f2 i).s && decide (0 < cmpZ (f2 i).e (f2 i).n e2 n2)) := ⟨_, fun _ => rfl⟩
        obtain ⟨R, hR⟩ : ∃ P : Nat → Bool, ∀ i, P i = (f2 i).s := ⟨_, fun _ => rfl⟩
        have HPP := Lib.hid hP
        have HQQ := Lib.hid hQ
        have HRR := Lib.hid hR
        clear hP hQ hR
        go_loopw [17, 18, 19, 20] (fun st ab al t wr => ∃ k : Nat, k ≤ 7 ∧ t = .int .i64 k ∧ st = .int .u8 (setP P k) ∧ ab = .int .u8 (setP Q k) ∧ al = .int .u8 (setP R k) ∧ Hid (Acks wr a q ws gs f2) ∧ Hid (wr.heap[wa.heap.size]? = some (.cells #[.int .u32 e2, .int .u32 n2] 44 (0, 0))) ∧ Hid (wr.heap[w2.heap.size]? = some (.cells #[.int .u32 e2, .int .u32 n2] 44 (0, 0))) ∧ Hid (Below w.heap.size w wr) ∧ Hid (w2.heap.size < wr.heap.size)) (fun _ _ _ t _ => 7 - (intOf t).toNat)
        case atStart => exact ⟨0, by omega, rfl, rfl, rfl, rfl, HA5, HX5, HY5, HB5, HL5⟩
        case round =>
          clear HA5 HX5 HY5 HB5 HL5
          obtain ⟨k, hk, rfl, rfl, rfl, rfl, HA, HX, HY, HB, HL⟩ := hrel
          by_cases hlt7 : k < 7
          · have KO := Lib.hid (of_any a q ws gs f2 wr HA.out HF2.out k (by omega))
            have EP := HPP.out k
            have EQ := HQQ.out k
            have ER := HRR.out k
            have TP : setP P (k + 1) = if P k = true then bits .or .u8 (setP P k) (2 ^ k % 256) else setP P k := rfl
            have TQ : setP Q (k + 1) = if Q k = true then bits .or .u8 (setP Q k) (2 ^ k % 256) else setP Q k := rfl
            have TR : setP R (k + 1) = if R k = true then bits .or .u8 (setP R k) (2 ^ k % 256) else setP R k := rfl
            have bP := setP_bd P k hk
            have bQ := setP_bd Q k hk
            have bR := setP_bd R k hk
            obtain ⟨sp, hsp⟩ : ∃ x, setP P k = x := ⟨_, rfl⟩
            obtain ⟨sq, hsq⟩ : ∃ x, setP Q k = x := ⟨_, rfl⟩
            obtain ⟨sr, hsr⟩ : ∃ x, setP R k = x := ⟨_, rfl⟩
            rw [hsp] at TP bP ⊢
            rw [hsq] at TQ bQ ⊢
            rw [hsr] at TR bR ⊢
            clear hsp hsq hsr
            obtain ⟨y, hy⟩ : ∃ x, f2 k = x := ⟨_, rfl⟩
            rw [hy] at KO EP EQ ER
            clear hy
            obtain ⟨ys, ye, yn⟩ := y
            dsimp only at EP EQ ER
            cases ys with
            | false =>
              simp only [Bool.false_and] at EP EQ
              go_wp2_with fail
              refine KO.out.mono ?_
              rintro e w6 ⟨rfl, hB⟩
              replace HA := Lib.hid (HA.out.below hB)
              replace HX := Lib.hid ((hB.block _ (Nat.lt_trans HZ1.out HL.out)).trans HX.out)
              replace HY := Lib.hid ((hB.block _ HL.out).trans HY.out)
              replace HB := Lib.hid (below_then HB.out HB.out.size hB)
              replace HL := Lib.hid (Nat.lt_of_lt_of_le HL.out hB.size)
              clear hB KO
              have HV6 := Lib.hid (heap_alloc_new w6 (Obj.cells #[Value.int .u32 ye, Value.int .u32 yn] 44))
              have hBx := below_alloc (Below.refl w6.heap.size w6) (Obj.cells #[Value.int .u32 ye, Value.int .u32 yn] 44)
              have HL6 : Hid (w6.heap.size < (w6.alloc (Obj.cells #[Value.int .u32 ye, Value.int .u32 yn] 44)).heap.size) := Lib.hid (by simp)
              obtain ⟨W7, hW7⟩ : ∃ W, w6.alloc (Obj.cells #[Value.int .u32 ye, Value.int .u32 yn] 44) = W := ⟨_, rfl⟩
              rw [hW7] at HV6 hBx HL6
              have HW7 := Lib.hid hW7
              replace HA := Lib.hid (HA.out.below hBx)
              replace HX := Lib.hid ((hBx.block _ (Nat.lt_trans HZ1.out HL.out)).trans HX.out)
              replace HY := Lib.hid ((hBx.block _ HL.out).trans HY.out)
              replace HB := Lib.hid (below_then HB.out HB.out.size hBx)
              replace HL := Lib.hid (Nat.lt_trans HL.out HL6.out)
              clear hBx hW7
              go_wp2
              rw [HW7.out]
              exact ⟨⟨k + 1, by omega, by go_num, by rw [TP, EP]; rfl, by rw [TQ, EQ]; rfl, by rw [TR, ER]; rfl, HA, HX, HY, HB, HL⟩, by simp [intOf]; omega⟩
            | true =>
              simp only [Bool.true_and] at EP EQ
              by_cases hc : 0 ≤ cmpZ ye yn e2 n2
              · by_cases hd : 0 < cmpZ ye yn e2 n2
                · rw [decide_eq_true hc] at EP
                  rw [decide_eq_true hd] at EQ
                  go_wp2_with fail
                  refine KO.out.mono ?_
                  rintro e w6 ⟨rfl, hB⟩
                  replace HA := Lib.hid (HA.out.below hB)
                  replace HX := Lib.hid ((hB.block _ (Nat.lt_trans HZ1.out HL.out)).trans HX.out)
                  replace HY := Lib.hid ((hB.block _ HL.out).trans HY.out)
                  replace HB := Lib.hid (below_then HB.out HB.out.size hB)
                  replace HL := Lib.hid (Nat.lt_of_lt_of_le HL.out hB.size)
                  clear hB KO
                  have HV6 := Lib.hid (heap_alloc_new w6 (Obj.cells #[Value.int .u32 ye, Value.int .u32 yn] 44))
                  have hBx := below_alloc (Below.refl w6.heap.size w6) (Obj.cells #[Value.int .u32 ye, Value.int .u32 yn] 44)
                  have HL6 : Hid (w6.heap.size < (w6.alloc (Obj.cells #[Value.int .u32 ye, Value.int .u32 yn] 44)).heap.size) := Lib.hid (by simp)
                  obtain ⟨W7, hW7⟩ : ∃ W, w6.alloc (Obj.cells #[Value.int .u32 ye, Value.int .u32 yn] 44) = W := ⟨_, rfl⟩
                  rw [hW7] at HV6 hBx HL6
                  have HW7 := Lib.hid hW7
                  replace HA := Lib.hid (HA.out.below hBx)
                  replace HX := Lib.hid ((hBx.block _ (Nat.lt_trans HZ1.out HL.out)).trans HX.out)
                  replace HY := Lib.hid ((hBx.block _ HL.out).trans HY.out)
                  replace HB := Lib.hid (below_then HB.out HB.out.size hBx)
                  replace HL := Lib.hid (Nat.lt_trans HL.out HL6.out)
                  clear hBx hW7
                  obtain ⟨y0, y1, _, _⟩ := box2 HV6.out
                  obtain ⟨z0, z1, _, _⟩ := box2 HY.out
                  rw [← HW7.out] at y0 y1 z0 z1
                  go_wp2_with fail
                  rw [HW7.out]
                  clear HW7
                  refine (cmpR_calls ye yn e2 n2 W7).mono ?_
                  rintro e w8 ⟨rfl, hB⟩
                  replace HA := Lib.hid (HA.out.below hB)
                  replace HX := Lib.hid ((hB.block _ (Nat.lt_trans HZ1.out HL.out)).trans HX.out)
                  replace HY := Lib.hid ((hB.block _ HL.out).trans HY.out)
                  replace HV6 := Lib.hid ((hB.block _ HL6.out).trans HV6.out)
                  replace HB := Lib.hid (below_then HB.out HB.out.size hB)
                  replace HL := Lib.hid (Nat.lt_of_lt_of_le HL.out hB.size)
                  replace HL6 := Lib.hid (Nat.lt_of_lt_of_le HL6.out hB.size)
                  clear hB
                  clear y0 y1 z0 z1
                  obtain ⟨y0, y1, _, _⟩ := box2 HV6.out
                  obtain ⟨z0, z1, _, _⟩ := box2 HY.out
                  go_wp2_with fail
                  refine (cmpR_calls ye yn e2 n2 w8).mono ?_
                  rintro e w9 ⟨rfl, hB⟩
                  replace HA := Lib.hid (HA.out.below hB)
                  replace HX := Lib.hid ((hB.block _ (Nat.lt_trans HZ1.out HL.out)).trans HX.out)
                  replace HY := Lib.hid ((hB.block _ HL.out).trans HY.out)
                  replace HV6 := Lib.hid ((hB.block _ HL6.out).trans HV6.out)
                  replace HB := Lib.hid (below_then HB.out HB.out.size hB)
                  replace HL := Lib.hid (Nat.lt_of_lt_of_le HL.out hB.size)
                  replace HL6 := Lib.hid (Nat.lt_of_lt_of_le HL6.out hB.size)
                  clear hB
                  clear y0 y1 z0 z1
                  go_wp2
                  exact ⟨⟨k + 1, by omega, by go_num, by rw [TP, EP]; rfl, by rw [TQ, EQ]; rfl, by rw [TR, ER]; rfl, HA, HX, HY, HB, HL⟩, by simp [intOf]; omega⟩
                · rw [decide_eq_true hc] at EP
                  rw [decide_eq_false hd] at EQ
                  go_wp2_with fail
                  refine KO.out.mono ?_
                  rintro e w6 ⟨rfl, hB⟩
                  replace HA := Lib.hid (HA.out.below hB)
                  replace HX := Lib.hid ((hB.block _ (Nat.lt_trans HZ1.out HL.out)).trans HX.out)
                  replace HY := Lib.hid ((hB.block _ HL.out).trans HY.out)
                  replace HB := Lib.hid (below_then HB.out HB.out.size hB)
                  replace HL := Lib.hid (Nat.lt_of_lt_of_le HL.out hB.size)
                  clear hB KO
                  have HV6 := Lib.hid (heap_alloc_new w6 (Obj.cells #[Value.int .u32 ye, Value.int .u32 yn] 44))
                  have hBx := below_alloc (Below.refl w6.heap.size w6) (Obj.cells #[Value.int .u32 ye, Value.int .u32 yn] 44)
                  have HL6 : Hid (w6.heap.size < (w6.alloc (Obj.cells #[Value.int .u32 ye, Value.int .u32 yn] 44)).heap.size) := Lib.hid (by simp)
                  obtain ⟨W7, hW7⟩ : ∃ W, w6.alloc (Obj.cells #[Value.int .u32 ye, Value.int .u32 yn] 44) = W := ⟨_, rfl⟩
                  rw [hW7] at HV6 hBx HL6
                  have HW7 := Lib.hid hW7
                  replace HA := Lib.hid (HA.out.below hBx)
                  replace HX := Lib.hid ((hBx.block _ (Nat.lt_trans HZ1.out HL.out)).trans HX.out)
                  replace HY := Lib.hid ((hBx.block _ HL.out).trans HY.out)
                  replace HB := Lib.hid (below_then HB.out HB.out.size hBx)
                  replace HL := Lib.hid (Nat.lt_trans HL.out HL6.out)
                  clear hBx hW7
                  obtain ⟨y0, y1, _, _⟩ := box2 HV6.out
                  obtain ⟨z0, z1, _, _⟩ := box2 HY.out
                  rw [← HW7.out] at y0 y1 z0 z1
                  go_wp2_with fail
                  rw [HW7.out]
                  clear HW7
                  refine (cmpR_calls ye yn e2 n2 W7).mono ?_
                  rintro e w8 ⟨rfl, hB⟩
                  replace HA := Lib.hid (HA.out.below hB)
                  replace HX := Lib.hid ((hB.block _ (Nat.lt_trans HZ1.out HL.out)).trans HX.out)
                  replace HY := Lib.hid ((hB.block _ HL.out).trans HY.out)
                  replace HV6 := Lib.hid ((hB.block _ HL6.out).trans HV6.out)
                  replace HB := Lib.hid (below_then HB.out HB.out.size hB)
                  replace HL := Lib.hid (Nat.lt_of_lt_of_le HL.out hB.size)
                  replace HL6 := Lib.hid (Nat.lt_of_lt_of_le HL6.out hB.size)
                  clear hB
                  clear y0 y1 z0 z1
                  obtain ⟨y0, y1, _, _⟩ := box2 HV6.out
                  obtain ⟨z0, z1, _, _⟩ := box2 HY.out
                  go_wp2_with fail
                  refine (cmpR_calls ye yn e2 n2 w8).mono ?_
                  rintro e w9 ⟨rfl, hB⟩
                  replace HA := Lib.hid (HA.out.below hB)
                  replace HX := Lib.hid ((hB.block _ (Nat.lt_trans HZ1.out HL.out)).trans HX.out)
                  replace HY := Lib.hid ((hB.block _ HL.out).trans HY.out)
                  replace HV6 := Lib.hid ((hB.block _ HL6.out).trans HV6.out)
                  replace HB := Lib.hid (below_then HB.out HB.out.size hB)
                  replace HL := Lib.hid (Nat.lt_of_lt_of_le HL.out hB.size)
                  replace HL6 := Lib.hid (Nat.lt_of_lt_of_le HL6.out hB.size)
                  clear hB
                  clear y0 y1 z0 z1
                  go_wp2
                  exact ⟨⟨k + 1, by omega, by go_num, by rw [TP, EP]; rfl, by rw [TQ, EQ]; rfl, by rw [TR, ER]; rfl, HA, HX, HY, HB, HL⟩, by simp [intOf]; omega⟩
              · have hd : ¬ 0 < cmpZ ye yn e2 n2 := by omega
                rw [decide_eq_false hc] at EP
                rw [decide_eq_false hd] at EQ
                go_wp2_with fail
                refine KO.out.mono ?_
                rintro e w6 ⟨rfl, hB⟩
                replace HA := Lib.hid (HA.out.below hB)
                replace HX := Lib.hid ((hB.block _ (Nat.lt_trans HZ1.out HL.out)).trans HX.out)
                replace HY := Lib.hid ((hB.block _ HL.out).trans HY.out)
                replace HB := Lib.hid (below_then HB.out HB.out.size hB)
                replace HL := Lib.hid (Nat.lt_of_lt_of_le HL.out hB.size)
                clear hB KO
                have HV6 := Lib.hid (heap_alloc_new w6 (Obj.cells #[Value.int .u32 ye, Value.int .u32 yn] 44))
                have hBx := below_alloc (Below.refl w6.heap.size w6) (Obj.cells #[Value.int .u32 ye, Value.int .u32 yn] 44)
                have HL6 : Hid (w6.heap.size < (w6.alloc (Obj.cells #[Value.int .u32 ye, Value.int .u32 yn] 44)).heap.size) := Lib.hid (by simp)
                obtain ⟨W7, hW7⟩ : ∃ W, w6.alloc (Obj.cells #[Value.int .u32 ye, Value.int .u32 yn] 44) = W := ⟨_, rfl⟩
                rw [hW7] at HV6 hBx HL6
                have HW7 := Lib.hid hW7
                replace HA := Lib.hid (HA.out.below hBx)
                replace HX := Lib.hid ((hBx.block _ (Nat.lt_trans HZ1.out HL.out)).trans HX.out)
                replace HY := Lib.hid ((hBx.block _ HL.out).trans HY.out)
                replace HB := Lib.hid (below_then HB.out HB.out.size hBx)
                replace HL := Lib.hid (Nat.lt_trans HL.out HL6.out)
                clear hBx hW7
                obtain ⟨y0, y1, _, _⟩ := box2 HV6.out
                obtain ⟨z0, z1, _, _⟩ := box2 HY.out
                rw [← HW7.out] at y0 y1 z0 z1
                go_wp2_with fail
                rw [HW7.out]
                clear HW7
                refine (cmpR_calls ye yn e2 n2 W7).mono ?_
                rintro e w8 ⟨rfl, hB⟩
                replace HA := Lib.hid (HA.out.below hB)
                replace HX := Lib.hid ((hB.block _ (Nat.lt_trans HZ1.out HL.out)).trans HX.out)
                replace HY := Lib.hid ((hB.block _ HL.out).trans HY.out)
                replace HV6 := Lib.hid ((hB.block _ HL6.out).trans HV6.out)
                replace HB := Lib.hid (below_then HB.out HB.out.size hB)
                replace HL := Lib.hid (Nat.lt_of_lt_of_le HL.out hB.size)
                replace HL6 := Lib.hid (Nat.lt_of_lt_of_le HL6.out hB.size)
                clear hB
                clear y0 y1 z0 z1
                obtain ⟨y0, y1, _, _⟩ := box2 HV6.out
                obtain ⟨z0, z1, _, _⟩ := box2 HY.out
                go_wp2_with fail
                refine (cmpR_calls ye yn e2 n2 w8).mono ?_
                rintro e w9 ⟨rfl, hB⟩
                replace HA := Lib.hid (HA.out.below hB)
                replace HX := Lib.hid ((hB.block _ (Nat.lt_trans HZ1.out HL.out)).trans HX.out)
                replace HY := Lib.hid ((hB.block _ HL.out).trans HY.out)
                replace HV6 := Lib.hid ((hB.block _ HL6.out).trans HV6.out)
                replace HB := Lib.hid (below_then HB.out HB.out.size hB)
                replace HL := Lib.hid (Nat.lt_of_lt_of_le HL.out hB.size)
                replace HL6 := Lib.hid (Nat.lt_of_lt_of_le HL6.out hB.size)
                clear hB
                clear y0 y1 z0 z1
                go_wp2
                exact ⟨⟨k + 1, by omega, by go_num, by rw [TP, EP]; rfl, by rw [TQ, EQ]; rfl, by rw [TR, ER]; rfl, HA, HX, HY, HB, HL⟩, by simp [intOf]; omega⟩
          · obtain rfl : k = 7 := by omega
            have bP := Lib.hid (setP_bd P 7 (by omega))
            have bQ := Lib.hid (setP_bd Q 7 (by omega))
            have bR := Lib.hid (setP_bd R 7 (by omega))
            have q1 : hasB ws gs (inS (setP P 7)) = true := committed_has HV.out f2 (by rw [HE.out]) P (fun i _ => by rw [HE.out]; exact HPP.out i)
            have q2 : hasB ws gs (inS (setP Q 7)) = false := above_none HV.out f2 Q (fun i _ hi => by rw [HE.out]; rw [HQQ.out i] at hi; simp only [Bool.and_eq_true, decide_eq_true_eq] at hi; exact ⟨hi.1, fun _ => hi.2⟩)
            have q3 : hasB ws gs (inS (bits .andNot .u8 127 (setP P 7))) = false := not_both HV.out _ bP.out.1 bP.out.2 q1
            have Q1 := Lib.hid q1
            have Q2 := Lib.hid q2
            have Q3 := Lib.hid q3
            clear q1 q2 q3
            go_wp2_with fail
            refine (calls_eq (has_sys q ws gs _ HA.out.sys.sys (setP P 7) bP.out) (congrArg Value.bool (Q1.out))).out.mono ?_
            rintro e wf1 ⟨rfl, hB⟩
            replace HA := Lib.hid (HA.out.below hB)
            replace HX := Lib.hid ((hB.block _ (Nat.lt_trans HZ1.out HL.out)).trans HX.out)
            replace HY := Lib.hid ((hB.block _ HL.out).trans HY.out)
            replace HB := Lib.hid (below_then HB.out HB.out.size hB)
            replace HL := Lib.hid (Nat.lt_of_lt_of_le HL.out hB.size)
            clear hB
            go_wp2_with fail
            refine (calls_eq (has_sys q ws gs _ HA.out.sys.sys (setP Q 7) bQ.out) (congrArg Value.bool (Q2.out))).out.mono ?_
            rintro e wf2 ⟨rfl, hB⟩
            replace HA := Lib.hid (HA.out.below hB)
            replace HX := Lib.hid ((hB.block _ (Nat.lt_trans HZ1.out HL.out)).trans HX.out)
            replace HY := Lib.hid ((hB.block _ HL.out).trans HY.out)
            replace HB := Lib.hid (below_then HB.out HB.out.size hB)
            replace HL := Lib.hid (Nat.lt_of_lt_of_le HL.out hB.size)
            clear hB
            go_wp2_with fail
            refine (calls_eq (has_sys q ws gs _ HA.out.sys.sys (bits .andNot .u8 127 (setP P 7)) ⟨bits_lo_u8 _ _ _, bits_hi_u8 _ _ _⟩) (congrArg Value.bool (Q3.out))).out.mono ?_
            rintro e wf3 ⟨rfl, hB⟩
            replace HA := Lib.hid (HA.out.below hB)
            replace HX := Lib.hid ((hB.block _ (Nat.lt_trans HZ1.out HL.out)).trans HX.out)
            replace HY := Lib.hid ((hB.block _ HL.out).trans HY.out)
            replace HB := Lib.hid (below_then HB.out HB.out.size hB)
            replace HL := Lib.hid (Nat.lt_of_lt_of_le HL.out hB.size)
            clear hB
            go_wp2
            exact ⟨⟨i + 1, by omega, by go_num, f2, by rw [HE.out], HF2, HA, by rw [HE.out]; exact HX, HB, Lib.hid (by have := HL.out; have := HZ1.out; omega)⟩, by simp [intOf]; omega⟩
    · obtain rfl : i = ps.length := by omega
      go_wp2
      go_ret
      exact ⟨rfl, HB.out⟩
end Go.Proofs.Ytfkbknkmanphfaa.Q
