import Derived.Test.YtkmpbnicofiehaaK
namespace Go.Proofs.Ytkmpbnicofiehaa.Q
open Go.RowKit Go.Proofs.YtkmpbnicofiehaaW.PrintWords Go.Deep Go.Maps Go.WideShapes
set_option linter.unusedVariables false
set_option linter.unusedSimpArgs false
attribute [local go_sem] Oper.semAt_some

/-! ALL, OF ONE SESSION -/
theorem info54 : (Try.prog.info? 54).map (fun i => (i.zero, i.size, i.bytes)) = some (some (.agg #[.int .i64 0, .int .i32 0]), 2, 16) := by kernel_rfl
theorem ranges_kept {P : Program} {k : TypeId} {R : Value → Option (DataW Unit × List MemPlace)} {b r n : Nat} {D : DataW Unit} {left : Lit → Bool} {cnt : Nat} {w w' : World} (h : w.ranges P k R b r n D left cnt) (hB : Below w.heap.size w w') : w'.ranges P k R b r n D left cnt :=
  h.kept (row := none) ⟨hB.os, hB.tape, hB.output, hB.size, fun i hi _ => hB.block i hi⟩ (by simp) (by simp)
structure AllI (b n r n0 : Nat) (id t d : Int) (w0 : World) (vo : Value) (m : Nat) (xs : List Value) (left : Lit → Bool) (cnt : Nat) (W : World) : Prop where
  rng : W.ranges Try.prog 2 lifeR b r n (oneD id t d) left cnt
  row : W.ownsRow n0 54 2 vo m xs
  is : (m = 0 ∧ left (.int .i64 id) = true) ∨ (m = 1 ∧ left (.int .i64 id) = false)
  old : Only (fun k => k = r) w0 W
theorem allI_step {b n r n0 : Nat} {id t d : Int} {w0 w2 w4 w5 : World} {vo v' : Value} {xs ys : List Value} {left : Lit → Bool} {cnt2 : Nat}
    (hrow : w2.ownsRow n0 54 2 vo 0 xs) (hrg : w2.ranges Try.prog 2 lifeR b r n (oneD id t d) (fun z => left z && !z.sameKey (.int .i64 id)) cnt2) (ho : Only (fun k => k = r) w0 w2)
    (hB : Below w2.heap.size w2 w4) (hbr : b < n0) (hrn : r < n0) (hz : n0 = w0.heap.size) (hown : w5.ownsRow n0 54 2 v' 1 ys) (hgrow : w4.grownBy w5 vo.ownBlock) :
    AllI b n r n0 id t d w0 v' 1 ys (fun z => left z && !z.sameKey (.int .i64 id)) cnt2 w5 := by
  have hx : ∀ k, vo.ownBlock = some k → n0 ≤ k := fun k hk => (own_blkN hrow hk).1
  have hsz : n0 ≤ w4.heap.size := Nat.le_trans (Nat.le_of_eq hz) (Nat.le_trans ho.size hB.size)
  refine ⟨(ranges_kept hrg hB).kept hgrow (fun e => by have := hx b e.symm; omega) (fun e => by have := hx r e.symm; omega), hown, .inr ⟨rfl, strike_false.2 (.inr rfl)⟩, ?_⟩
  refine ⟨hgrow.os.trans (hB.os.trans ho.os), hgrow.tape.trans (hB.tape.trans ho.tape), hgrow.output.trans (hB.output.trans ho.output), Nat.le_trans ho.size (Nat.le_trans hB.size hgrow.size), fun k hk hn => ?_⟩
  have a1 : k < w2.heap.size := Nat.lt_of_lt_of_le hk ho.size
  have a2 : k < w4.heap.size := Nat.lt_of_lt_of_le a1 hB.size
  exact (hgrow.block k a2 (fun e => by have := hx k e.symm; omega)).trans ((hB.block k a1).trans (ho.keep hk hn))
set_option maxHeartbeats 8000000 in
theorem all_one {c b s n : Nat} {now span : Int} {id t d : Int} {w : World} (h : Clk c b s now span n (oneD id t d) w) (h1 : 1 ≤ span) (hi0 : (Lit.int .i64 id).wf = true) :
    Calls Try.prog 14 #[.pointer (some ⟨c, 0, none⟩)] w fun e w' => (∃ A cp, e = .returned (.slice A 1 cp)) ∧ Below w.heap.size w w' := by
  have K1 := Lib.hid (none_clk h h1)
  have x2 := cell_row (k := 2) (v := .map (some b)) h.cells rfl
  have H := Lib.hid h
  clear h
  go_enter Try.func14, Try.ntmps14
  go_wp2_with fail
  refine K1.out.mono ?_
  rintro e w1 ⟨rfl, rfl⟩
  go_wp2_with (at_range; refine wpList_range_own _ rfl _ 44 rfl 2 49 keyed2 Try.underlying44 lifeR b n (oneD id t d) rfl H.out.map ?_; intro w0 hrg0 hg0 hs0; have HR0 := Lib.hid (And.intro hrg0 (And.intro hg0 hs0)); clear hrg0 hg0 hs0)
  obtain ⟨r, hr⟩ : ∃ r, w1.heap.size = r := ⟨_, rfl⟩
  rw [hr] at HR0 ⊢
  rename_i KK aK
  have HK := Lib.hid aK
  clear aK x2
  have hbr : b < r := by rw [← hr]; exact H.out.map.lt
  have HR := Lib.hid hr
  clear hr
  have hO0 : Only (fun _ => False) w1 w0 := ⟨HR0.out.2.1.os, HR0.out.2.1.tape, HR0.out.2.1.output, HR0.out.2.1.size, fun k hk _ => HR0.out.2.1.block k hk (by simp)⟩
  have HO0 := Lib.hid hO0
  clear hO0
  go_frame
  go_loopw [3] (fun vo wr => ∃ (m : Nat) (xs : List Value) (left : Lit → Bool) (cnt : Nat), Hid (AllI b n r (r + 1) id t d w0 vo m xs left cnt wr)) (fun _ wr => wr.rangeLeft b r)
  case atStart => exact ⟨0, [], _, _, Lib.hid ⟨HR0.out.1, World.ownsRow_nil _ _ _ _, .inl ⟨rfl, by rw [oneD_has]; simp⟩, Only.refl _ _⟩⟩
  case round =>
    obtain ⟨m, xs, left, cnt, HI⟩ := hrel
    obtain ⟨av, cv, rfl, hnc⟩ := own_sliceN HI.out.row
    go_wp2_with (first
      | (at_next; refine wpList_next_ranges _ rfl _ rfl 2 keyed2 lifeR (Value.int .i64) mkLife inv_key inv_life b r n _ _ _ rfl HI.out.rng ?_ ?_)
      | go_in)
    · intro hc0 hl0
      have hm : m = 1 := by
        rcases HI.out.is with ⟨_, h⟩ | ⟨h, _⟩
        · rw [hl0] at h; cases h
        · exact h
      subst hm
      go_wp2
      refine HK.out _ _ ?_
      go_wp2_with fail
      refine (sortc_one av 1 cv _ wr (by omega)).mono ?_
      rintro e w5 ⟨rfl, rfl⟩
      go_wp2
      go_ret
      refine ⟨⟨av, cv, rfl⟩, ?_⟩
      have h1 := HO0.out.trans HI.out.old (T := fun k => k = r) (S := fun _ => False) (fun k hk e => by rw [HR.out] at hk; omega)
      exact h1.below (fun k _ hn => hn)
    · intro x tx dx kl y1 y2 w2 cnt2 hkey hlk hv hat hrg2 hlt hg2 hs2 hen
      have hen2 : (Instr.entry (.pointer (some ⟨r, 0, none⟩))).run Try.prog w2 = .ok (.tuple #[.int .i64 x, .agg #[.int .i32 tx, .int .i64 dx]]) w2 := hen
      obtain ⟨x', hxe, rfl, hwx⟩ := Maps.keyOf_int_inv Try.underlying2 hkey
      cases hxe
      obtain ⟨t', d', hve, hye, hwt, hwd⟩ := lifeR_inv hv
      cases hye
      cases hve
      have hlook := look_at (D := oneD id t d) (x := x) (t := tx) (d := dx) hat
      rw [oneD_look] at hlook
      have hxi : x = id := by
        split at hlook
        · assumption
        · cases hlook
      subst hxi
      have hm : m = 0 := by
        rcases HI.out.is with ⟨h, _⟩ | ⟨_, h⟩
        · exact h
        · rw [h] at hlk; cases hlk
      subst hm
      have hO2 : Only (fun k => k = r) wr w2 := ⟨hg2.os, hg2.tape, hg2.output, hg2.size, fun k hk hn => hg2.block k hk (fun e => hn (by cases e; rfl))⟩
      have hrow2 : w2.ownsRow (r + 1) 54 2 (.slice av 0 cv) 0 xs := by
        refine HI.out.row.kept hg2 ?_
        rcases HI.out.row.2 with ⟨hv0, _⟩ | ⟨g, cap, cur, hv0, hb0, hgb, _⟩
        · exact .inl (by rw [hv0]; rfl)
        · refine .inr fun e' => ?_
          rw [hv0] at e'
          have : g = r := by simpa [Value.ownBlock] using e'
          omega
      have hOw := HI.out.old.trans hO2 (fun i _ e => e)
      have HE := Lib.hid (And.intro hrow2 (And.intro hOw (And.intro hrg2 hlt)))
      obtain ⟨i54, hi, hz0, hz1, hz2⟩ := info_parts info54
      have HI2 := Lib.hid (And.intro hi (And.intro hz0 (And.intro hz1 hz2)))
      clear hkey hv hat hrg2 hlt hg2 hs2 hen hlook hO2 hrow2 hOw hlk hwt hwd hi hz0 hz1 hz2
      have hB3 : Below w2.heap.size w2 (w2.alloc (.cells #[.int .i32 tx, .int .i64 dx] 49)) := below_alloc (Below.refl _ w2) _
      have k1 : (w2.alloc (.cells #[.int .i32 tx, .int .i64 dx] 49)).cell? ⟨w2.heap.size, 0, none⟩ = some (.int .i32 tx) := cell_row (World.alloc_heap_new w2 _) rfl
      have hh := World.alloc_heap_new (w2.alloc (.cells #[.int .i32 tx, .int .i64 dx] 49)) (.cells #[.int .i64 x, .int .i32 tx] 54)
      rw [World.size_alloc] at hh
      have HNW := Lib.hid (World.news_of_block hh)
      clear hh
      have hb1 : r + 1 ≤ ((w2.alloc (.cells #[.int .i32 tx, .int .i64 dx] 49)).alloc (.cells #[.int .i64 x, .int .i32 tx] 54)).heap.size := by
        rw [World.size_alloc, World.size_alloc]
        have h1 := HE.out.2.1.size
        have h2 := HR0.out.2.2
        omega
      have HB1 := Lib.hid hb1
      have HO1 := Lib.hid ((HE.out.1.alloc (.cells #[.int .i32 tx, .int .i64 dx] 49)).alloc (.cells #[.int .i64 x, .int .i32 tx] 54))
      have ho1 : ∀ u ∈ [Value.int .i64 x, Value.int .i32 tx], u.oneCell' = true := by simp [Value.oneCell']
      have HO2 := Lib.hid ho1
      have hm1 : 0 + 1 ≤ maxLen := by unfold maxLen; omega
      have HM1 := Lib.hid hm1
      clear hb1 ho1 hm1
      have tst : ∀ v' W5 ys, Go.World.ownsRow W5 (r + 1) 54 2 v' 1 ys → Go.World.grownBy ((w2.alloc (.cells #[.int .i32 tx, .int .i64 dx] 49)).alloc (.cells #[.int .i64 x, .int .i32 tx] 54)) W5 (Value.slice av 0 cv).ownBlock → AllI b n r (r + 1) x t d w0 v' 1 ys (fun z => left z && !z.sameKey (.int .i64 x)) cnt2 W5 := fun v' W5 ys hown' hgrow => allI_step HE.out.1 HE.out.2.2.1 HE.out.2.1 (below_alloc hB3 _) (by omega) (by omega) HR0.out.2.2.symm hown' hgrow
      have TST := Lib.hid tst
      clear tst
      go_wp2_with (at_builtin; (refine wpList_append_own _ rfl (.tmp 18) (.tmp 23) 40 rfl (r + 1) 54 i54 (.agg #[.int .i64 0, .int .i32 0]) 2 16 Try.underlying40 HI2.out.1 HI2.out.2.1 HI2.out.2.2.1 HI2.out.2.2.2 rfl (by decide) (.slice av 0 cv) 0 xs rfl HO1.out ⟨w2.heap.size + 1, 0, none⟩ 1 1 [.int .i64 x, .int .i32 tx] rfl rfl HNW.out HO2.out HM1.out (by decide) HB1.out ?_; intro v' W5 hown' hgrow _; have HA := Lib.hid (TST.out _ _ _ hown' hgrow); clear hown' hgrow))
      exact ⟨⟨1, _, _, _, HA⟩, by rw [HA.out.rng.left_eq, HI.out.rng.left_eq]; exact HE.out.2.2.2⟩
end Go.Proofs.Ytkmpbnicofiehaa.Q
