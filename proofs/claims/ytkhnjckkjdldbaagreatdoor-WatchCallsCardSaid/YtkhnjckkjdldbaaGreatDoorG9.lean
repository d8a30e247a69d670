import Derived.Test.YtkhnjckkjdldbaaGreatDoorGh
namespace Go.Proofs.YtkhnjckkjdldbaaGreatDoor.Q
open Go.RowKit Go.Proofs.YtkhnjckkjdldbaaGreatDoorW.PrintWords Go.Deep Go.Maps Go.WideShapes
open Go.Proofs.YtkhnjckkjdldbaaGreatDoor.Pr (S57 S59 S77 S61 k57 k77 rd_T77 lagoonref00_EqFired.f lagoonref00_EqFired.l0 lagoonlaw18_same.f)
open Go.Proofs.YtkhnjckkjdldbaaGreatDoor
open Go.Proofs.YtkhnjckkjdldbaaGreatDoor.Bag (Row encFd own_lower R_of_row)
set_option linter.unusedVariables false
set_option linter.unusedSimpArgs false
attribute [local go_sem] Oper.semAt_some
/-! A STEP OF THE DOCUMENT's BOARD (printed by mkwants.py) -/
theorem addR_addB (P : WN) (came : Int) (y : S57) : addR (P.map Prod.fst) y = ((addB P came y).1, (addB P came y).2.1.map Prod.fst) := by
  have hin : y ∈ P.map Prod.fst ↔ inB P y = true := by
    rw [inB_iff, List.mem_map]
    exact ⟨fun ⟨q, hq, e⟩ => ⟨q.2, by rw [← e]; exact hq⟩, fun ⟨n, hn⟩ => ⟨_, hn, rfl⟩⟩
  unfold addR
  rcases add_cases P came y with ⟨h1, h2⟩ | ⟨h1, h2, h3⟩ | ⟨h1, h2, h3, h4⟩ | ⟨h1, h2, h3, h4⟩
  · rw [if_pos h1, h2]
  · rw [if_neg (by simp [h1]), if_pos (hin.2 h2), h3]
  · rw [if_neg (by simp [h1]), if_neg (fun e => by rw [hin.1 e] at h2; cases h2), if_pos (by rw [List.length_map]; exact h3), h4]
  · rw [if_neg (by simp [h1]), if_neg (fun e => by rw [hin.1 e] at h2; cases h2), if_neg (by rw [List.length_map]; omega), h4, List.map_append]; rfl
theorem RefI.onlyN {S : Nat → Prop} {r base : Nat} {x : Value} {L : List S57} {W W' : World} (h : RefI r base x L W) (ho : Only S W W') (hr : ¬ S r) (hx : ∀ k, x.ownBlock = some k → ¬ S k) : RefI r base x L W' :=
  ⟨ho.blk h.blk hr, h.row.onlyN ho hx, h.lo, Nat.le_trans h.hi ho.size, h.few⟩
theorem only_three (W : World) (k : Nat) (a b c : Value) : Only (fun j => j = k) W (((W.setCell ⟨k, 0, none⟩ a).setCell ⟨k, 1, none⟩ b).setCell ⟨k, 2, none⟩ c) :=
  (((Only.refl (fun j => j = k) W).setCell (p := ⟨k, 0, none⟩) (.inl rfl) a).setCell (p := ⟨k, 1, none⟩) (.inl rfl) b).setCell (p := ⟨k, 2, none⟩) (.inl rfl) c
set_option maxRecDepth 100000 in
set_option maxHeartbeats 8000000 in
theorem wants_calls {r base : Nat} {x : Value} {P : WN} {came : Int} {w : World} (y : S61) (h : RefI r base x (P.map Prod.fst) w) (hs1 : y.f2.f2.size ≤ 2147483648) (hs2 : y.f3.f1.size ≤ 2147483648) (hr : ∀ q ∈ P, rightB q.1 = true) :
    Calls Tryz.prog 9 #[.pointer (some ⟨r, 0, none⟩), .agg (encS7 y).toArray] w fun e w' => ∃ vF vW, e = .returned (.agg #[.int .i64 (doneB P came y).e, vF, vW]) ∧ (∃ bF, Row encFd 5 bF 77 w' vF (doneB P came y).fired) ∧ (∃ bW, Row encW 3 bW 57 w' vW (doneB P came y).told) ∧
      Only (fun k => k = r ∨ x.ownBlock = some k) w w' ∧ ∃ x', RefI r base x' ((doneB P came y).left.map Prod.fst) w' ∧ ∀ k, x'.ownBlock = some k → x.ownBlock = some k ∨ w.heap.size ≤ k := by
  obtain ⟨pl, wh, ⟨a, k, p⟩, ⟨ck, cp⟩⟩ := y
  obtain ⟨W2, hW2, hB2, hz0, hz1⟩ := two_boxes w #[.int .i64 pl, .int .i64 wh, .int .i64 a, .int .i8 k, .string p, .int .i8 ck, .string cp] #[.int .i64 0, .slice none 0 0, .slice none 0 0] 61 66
  have hrw : r < w.heap.size := (Array.getElem?_eq_some_iff.1 h.blk).1
  have hxl : ∀ j, x.ownBlock = some j → j < w.heap.size := fun j hj => (h.row.lt hj).2
  have HRF := Lib.hid (h.below hB2)
  have HB := Lib.hid hB2
  have HW := Lib.hid hW2
  have HZ := Lib.hid (And.intro hz0 hz1)
  have HR : Hid (∀ z ∈ P.map Prod.fst, rightB z = true) := Lib.hid (fun z hz => by
    obtain ⟨q, hq, e⟩ := List.mem_map.1 hz
    rw [← e]; exact hr q hq)
  have HXL := Lib.hid hxl
  have e1 := cell_rowK (k := 1) (v := .int .i64 wh) hz0 rfl
  have e2 := cell_rowK (k := 2) (v := .int .i64 a) hz0 rfl
  have e3 := cell_rowK (k := 3) (v := .int .i8 k) hz0 rfl
  have e4 := cell_rowK (k := 4) (v := .string p) hz0 rfl
  have e5 := cell_rowK (k := 5) (v := .int .i8 ck) hz0 rfl
  have e6 := cell_rowK (k := 6) (v := .string cp) hz0 rfl
  rw [← hW2] at e1 e2 e3 e4 e5 e6
  clear h hB2 hW2 hz0 hz1 hr hxl
  simp only at hs1 hs2
  by_cases c0 : wh = 0
  · subst c0
    have KA := rAdd_calls ⟨a, k, p⟩ HRF.out (by show p.size ≤ _; omega)
    rw [addR_addB P came] at KA
    have KA := Lib.hid KA
    rw [show doneB P came ⟨pl, 0, ⟨a, k, p⟩, ⟨ck, cp⟩⟩ = ⟨(addB P came ⟨a, k, p⟩).1, [], [], (addB P came ⟨a, k, p⟩).2.1, (addB P came ⟨a, k, p⟩).2.2⟩ from if_pos rfl]
    obtain ⟨E, hE⟩ : ∃ E, addB P came ⟨a, k, p⟩ = E := ⟨_, rfl⟩
    rw [hE] at KA ⊢
    clear hE
    go_enter Tryz.func9, Tryz.ntmps9
    go_wp2_with fail
    rw [HW.out]
    refine KA.out.mono ?_
    rintro e w3 ⟨rfl, ho, x', hrf, hx0⟩
    have hx' : ∀ j, x'.ownBlock = some j → x.ownBlock = some j ∨ W2.heap.size ≤ j := hx0
    have hz := ho.blk HZ.out.2 (by rintro (e | e); omega; have := HXL.out _ e; omega)
    have s0 := cell_rowK (k := 0) (v := .int .i64 0) hz rfl
    have s1 := cell_rowK (k := 1) (v := .slice none 0 0) hz rfl
    have s2 := cell_rowK (k := 2) (v := .slice none 0 0) hz rfl
    have f0 := frozen_rowK (j := 0) hz
    have f1 := frozen_rowK (j := 1) hz
    have f2 := frozen_rowK (j := 2) hz
    have hsz2 : w.heap.size + 1 < W2.heap.size := (Array.getElem?_eq_some_iff.1 HZ.out.2).1
    have HZ3 := Lib.hid hz
    have HRF3 := Lib.hid (And.intro hrf (fun j hj => (by rcases hx' j hj with h1 | h1; exact .inl h1; exact .inr (by omega) : x.ownBlock = some j ∨ w.heap.size + 1 < j)))
    have HO3 := Lib.hid ((Only.of_below (S := fun k => k = r ∨ x.ownBlock = some k) HB.out).trans ho (fun _ _ e => e))
    clear KA ho e1 e2 e3 e4 e5 e6 hz hrf hx' hsz2 hx0
    go_wp2
    (try simp only [Exit.inBlock, Exit.then])
    refine bodyPost_ret (results_single rfl (.cell (w.heap.size + 1) 66 _ (0, 0) _ rfl (set3 HZ3.out _ _ _) Tryz.underlying66 rfl (by kernel_rfl) .nil)) rfl ?_
    have hne : ∀ j, x.ownBlock = some j ∨ w.heap.size + 1 < j → j ≠ w.heap.size + 1 := fun j hj e => by
      rcases hj with h1 | h1
      · have := HXL.out j h1; omega
      · omega
    refine ⟨_, _, rfl, ⟨_, row_nil encFd 5 0 77 _⟩, ⟨_, row_nil encW 3 0 57 _⟩, only_setCells HO3.out (by omega) _ _ _, _, HRF3.out.1.onlyN (only_three _ _ _ _ _) (by omega) (fun j hj e => hne j (HRF3.out.2 j hj) e), fun j hj => ?_⟩
    rcases HRF3.out.2 j hj with h1 | h1
    · exact .inl h1
    · exact .inr (by omega)

  by_cases c1 : wh = 1
  · subst c1
    have KA := rFire_calls ck cp HRF.out (by omega) HR.out
    rw [← told_hit, ← left_stays] at KA
    have KA := Lib.hid KA
    rw [show doneB P came ⟨pl, 1, ⟨a, k, p⟩, ⟨ck, cp⟩⟩ = ⟨0, (toldB ck cp P).map (fun x => ⟨x, ⟨ck, cp⟩⟩), [], leftB ck cp P, came⟩ from rfl]
    go_enter Tryz.func9, Tryz.ntmps9
    go_wp2_with fail
    rw [HW.out]
    refine KA.out.mono ?_
    rintro e w3 ⟨v, rfl, hrow', ho', x', hrf, hx'⟩
    have ho : Only (fun k => k = r ∨ x.ownBlock = some k) W2 w3 := ho'.mono (fun _ _ e => .inl e)
    have hrow : Row encFd 5 W2.heap.size 77 w3 v ((toldB ck cp P).map (fun x => (⟨x, ⟨ck, cp⟩⟩ : S77))) := by
      unfold Row
      rw [List.length_map, List.flatMap_map]
      exact hrow'
    obtain ⟨A, cap, rfl, hcap⟩ := Bag.Row.slice hrow
    obtain ⟨nL, hnL⟩ : ∃ n, ((toldB ck cp P).map (fun x => (⟨x, ⟨ck, cp⟩⟩ : S77))).length = n := ⟨_, rfl⟩
    rw [hnL] at hrow ⊢
    clear hnL
    have hz := ho.blk HZ.out.2 (by rintro (e | e); omega; have := HXL.out _ e; omega)
    have s0 := cell_rowK (k := 0) (v := .int .i64 0) hz rfl
    have s1 := cell_rowK (k := 1) (v := .slice none 0 0) hz rfl
    have s2 := cell_rowK (k := 2) (v := .slice none 0 0) hz rfl
    have f0 := frozen_rowK (j := 0) hz
    have f1 := frozen_rowK (j := 1) hz
    have f2 := frozen_rowK (j := 2) hz
    have hsz2 : w.heap.size + 1 < W2.heap.size := (Array.getElem?_eq_some_iff.1 HZ.out.2).1
    have HZ3 := Lib.hid hz
    have HRF3 := Lib.hid (And.intro hrf (fun j hj => (by rcases hx' j hj with h1 | h1; exact .inl h1; exact .inr (by omega) : x.ownBlock = some j ∨ w.heap.size + 1 < j)))
    have HO3 := Lib.hid ((Only.of_below (S := fun k => k = r ∨ x.ownBlock = some k) HB.out).trans ho (fun _ _ e => e))
    have HRW := Lib.hid (And.intro hrow (show (Value.slice A nL cap).ownBlock ≠ some (w.heap.size + 1) from fun e => by have := (hrow.lt e).1; omega))
    clear KA ho e1 e2 e3 e4 e5 e6 hz hrf hx' hsz2 hrow ho' hrow' hcap
    go_wp2
    (try simp only [Exit.inBlock, Exit.then])
    refine bodyPost_ret (results_single rfl (.cell (w.heap.size + 1) 66 _ (0, 0) _ rfl (set3 HZ3.out _ _ _) Tryz.underlying66 rfl (by kernel_rfl) .nil)) rfl ?_
    have hne : ∀ j, x.ownBlock = some j ∨ w.heap.size + 1 < j → j ≠ w.heap.size + 1 := fun j hj e => by
      rcases hj with h1 | h1
      · have := HXL.out j h1; omega
      · omega
    refine ⟨_, _, rfl, ⟨_, row_set3 HRW.out.1 HRW.out.2 _ _ _⟩, ⟨_, row_nil encW 3 0 57 _⟩, only_setCells HO3.out (by omega) _ _ _, _, HRF3.out.1.onlyN (only_three _ _ _ _ _) (by omega) (fun j hj e => hne j (HRF3.out.2 j hj) e), fun j hj => ?_⟩
    rcases HRF3.out.2 j hj with h1 | h1
    · exact .inl h1
    · exact .inr (by omega)

  by_cases c2 : wh = 2
  · subst c2
    have KA := rDrop_calls a HRF.out
    rw [show ((P.map Prod.fst).filter fun x => !(x.f0 == a)) = (P.filter fun p => !(p.1.f0 == a)).map Prod.fst by rw [List.filter_map]; rfl] at KA
    have KA := Lib.hid KA
    rw [show doneB P came ⟨pl, 2, ⟨a, k, p⟩, ⟨ck, cp⟩⟩ = ⟨0, [], (P.map Prod.fst).filter (fun x => x.f0 == a), P.filter (fun p => !(p.1.f0 == a)), came⟩ from rfl]
    go_enter Tryz.func9, Tryz.ntmps9
    go_wp2_with fail
    rw [HW.out]
    refine KA.out.mono ?_
    rintro e w3 ⟨v, rfl, hrow, ho', x', hrf, hx0⟩
    have hx' : ∀ j, x'.ownBlock = some j → x.ownBlock = some j ∨ W2.heap.size ≤ j := fun j hj => .inr (hx0 j hj)
    have ho : Only (fun k => k = r ∨ x.ownBlock = some k) W2 w3 := ho'.mono (fun _ _ e => .inl e)
    obtain ⟨A, cap, rfl, hcap⟩ := Bag.Row.slice hrow
    obtain ⟨nL, hnL⟩ : ∃ n, ((P.map Prod.fst).filter (fun x => x.f0 == a)).length = n := ⟨_, rfl⟩
    rw [hnL] at hrow ⊢
    clear hnL
    have hz := ho.blk HZ.out.2 (by rintro (e | e); omega; have := HXL.out _ e; omega)
    have s0 := cell_rowK (k := 0) (v := .int .i64 0) hz rfl
    have s1 := cell_rowK (k := 1) (v := .slice none 0 0) hz rfl
    have s2 := cell_rowK (k := 2) (v := .slice none 0 0) hz rfl
    have f0 := frozen_rowK (j := 0) hz
    have f1 := frozen_rowK (j := 1) hz
    have f2 := frozen_rowK (j := 2) hz
    have hsz2 : w.heap.size + 1 < W2.heap.size := (Array.getElem?_eq_some_iff.1 HZ.out.2).1
    have HZ3 := Lib.hid hz
    have HRF3 := Lib.hid (And.intro hrf (fun j hj => (by rcases hx' j hj with h1 | h1; exact .inl h1; exact .inr (by omega) : x.ownBlock = some j ∨ w.heap.size + 1 < j)))
    have HO3 := Lib.hid ((Only.of_below (S := fun k => k = r ∨ x.ownBlock = some k) HB.out).trans ho (fun _ _ e => e))
    have HRW := Lib.hid (And.intro hrow (show (Value.slice A nL cap).ownBlock ≠ some (w.heap.size + 1) from fun e => by have := (hrow.lt e).1; omega))
    clear KA ho e1 e2 e3 e4 e5 e6 hz hrf hx' hsz2 hrow ho' hx0 hcap
    go_wp2
    (try simp only [Exit.inBlock, Exit.then])
    refine bodyPost_ret (results_single rfl (.cell (w.heap.size + 1) 66 _ (0, 0) _ rfl (set3 HZ3.out _ _ _) Tryz.underlying66 rfl (by kernel_rfl) .nil)) rfl ?_
    have hne : ∀ j, x.ownBlock = some j ∨ w.heap.size + 1 < j → j ≠ w.heap.size + 1 := fun j hj e => by
      rcases hj with h1 | h1
      · have := HXL.out j h1; omega
      · omega
    refine ⟨_, _, rfl, ⟨_, row_nil encFd 5 0 77 _⟩, ⟨_, row_set3 HRW.out.1 HRW.out.2 _ _ _⟩, only_setCells HO3.out (by omega) _ _ _, _, HRF3.out.1.onlyN (only_three _ _ _ _ _) (by omega) (fun j hj e => hne j (HRF3.out.2 j hj) e), fun j hj => ?_⟩
    rcases HRF3.out.2 j hj with h1 | h1
    · exact .inl h1
    · exact .inr (by omega)

  by_cases c3 : wh = 3
  · subst c3
    have KA := Lib.hid (rClear_calls HRF.out)
    rw [show doneB P came ⟨pl, 3, ⟨a, k, p⟩, ⟨ck, cp⟩⟩ = ⟨0, [], P.map Prod.fst, [], came⟩ from rfl]
    obtain ⟨A, cap, hxs, hcap⟩ := Bag.Row.slice HRF.out.row
    obtain ⟨nL, hnL⟩ : ∃ n, (P.map Prod.fst).length = n := ⟨_, rfl⟩
    rw [hnL] at hxs
    clear hnL hcap
    go_enter Tryz.func9, Tryz.ntmps9
    go_wp2_with fail
    rw [HW.out]
    refine KA.out.mono ?_
    rintro e w3 ⟨rfl, hrow, hrf, ho'⟩
    have hx' : ∀ j, (Value.slice none 0 0).ownBlock = some j → x.ownBlock = some j ∨ W2.heap.size ≤ j := fun j hj => by cases hj
    have ho : Only (fun k => k = r ∨ x.ownBlock = some k) W2 w3 := ho'.mono (fun _ _ e => .inl e)
    subst hxs
    have hz := ho.blk HZ.out.2 (by rintro (e | e); omega; have := HXL.out _ e; omega)
    have s0 := cell_rowK (k := 0) (v := .int .i64 0) hz rfl
    have s1 := cell_rowK (k := 1) (v := .slice none 0 0) hz rfl
    have s2 := cell_rowK (k := 2) (v := .slice none 0 0) hz rfl
    have f0 := frozen_rowK (j := 0) hz
    have f1 := frozen_rowK (j := 1) hz
    have f2 := frozen_rowK (j := 2) hz
    have hsz2 : w.heap.size + 1 < W2.heap.size := (Array.getElem?_eq_some_iff.1 HZ.out.2).1
    have HZ3 := Lib.hid hz
    have HRF3 := Lib.hid (And.intro hrf (fun j hj => (by rcases hx' j hj with h1 | h1; exact .inl h1; exact .inr (by omega) : (Value.slice A nL cap).ownBlock = some j ∨ w.heap.size + 1 < j)))
    have HO3 := Lib.hid ((Only.of_below (S := fun k => k = r ∨ (Value.slice A nL cap).ownBlock = some k) HB.out).trans ho (fun _ _ e => e))
    have HRW := Lib.hid (And.intro hrow (show (Value.slice A nL cap).ownBlock ≠ some (w.heap.size + 1) from fun e => by have := HXL.out _ e; omega))
    clear KA ho e1 e2 e3 e4 e5 e6 hz hrf hx' hsz2 hrow ho'
    go_wp2
    (try simp only [Exit.inBlock, Exit.then])
    refine bodyPost_ret (results_single rfl (.cell (w.heap.size + 1) 66 _ (0, 0) _ rfl (set3 HZ3.out _ _ _) Tryz.underlying66 rfl (by kernel_rfl) .nil)) rfl ?_
    have hne : ∀ j, (Value.slice A nL cap).ownBlock = some j ∨ w.heap.size + 1 < j → j ≠ w.heap.size + 1 := fun j hj e => by
      rcases hj with h1 | h1
      · have := HXL.out j h1; omega
      · omega
    refine ⟨_, _, rfl, ⟨_, row_nil encFd 5 0 77 _⟩, ⟨_, row_set3 HRW.out.1 HRW.out.2 _ _ _⟩, only_setCells HO3.out (by omega) _ _ _, _, HRF3.out.1.onlyN (only_three _ _ _ _ _) (by omega) (fun j hj e => hne j (HRF3.out.2 j hj) e), fun j hj => ?_⟩
    rcases HRF3.out.2 j hj with h1 | h1
    · exact .inl h1
    · exact .inr (by omega)

  have t0 : (wh == 0) = false := by simpa using c0
  have t1 : (wh == 1) = false := by simpa using c1
  have t2 : (wh == 2) = false := by simpa using c2
  have t3 : (wh == 3) = false := by simpa using c3
  have KA := Lib.hid (rAll_calls HRF.out)
  rw [show doneB P came ⟨pl, wh, ⟨a, k, p⟩, ⟨ck, cp⟩⟩ = ⟨0, [], P.map Prod.fst, P, came⟩ by unfold doneB; simp [c0, c1, c2, c3]]
  go_enter Tryz.func9, Tryz.ntmps9
  go_wp2_with fail
  rw [HW.out]
  refine KA.out.mono ?_
  rintro e w3 ⟨v, rfl, hrow, hB⟩
  have hrf := HRF.out.below hB
  have ho : Only (fun k => k = r ∨ x.ownBlock = some k) W2 w3 := Only.of_below hB
  have hx' : ∀ j, x.ownBlock = some j → x.ownBlock = some j ∨ W2.heap.size ≤ j := fun j hj => .inl hj
  obtain ⟨A, cap, rfl, hcap⟩ := Bag.Row.slice hrow
  obtain ⟨nL, hnL⟩ : ∃ n, (P.map Prod.fst).length = n := ⟨_, rfl⟩
  rw [hnL] at hrow ⊢
  clear hnL

  have hz := ho.blk HZ.out.2 (by rintro (e | e); omega; have := HXL.out _ e; omega)
  have s0 := cell_rowK (k := 0) (v := .int .i64 0) hz rfl
  have s1 := cell_rowK (k := 1) (v := .slice none 0 0) hz rfl
  have s2 := cell_rowK (k := 2) (v := .slice none 0 0) hz rfl
  have f0 := frozen_rowK (j := 0) hz
  have f1 := frozen_rowK (j := 1) hz
  have f2 := frozen_rowK (j := 2) hz
  have hsz2 : w.heap.size + 1 < W2.heap.size := (Array.getElem?_eq_some_iff.1 HZ.out.2).1
  have HZ3 := Lib.hid hz
  have HRF3 := Lib.hid (And.intro hrf (fun j hj => (by rcases hx' j hj with h1 | h1; exact .inl h1; exact .inr (by omega) : x.ownBlock = some j ∨ w.heap.size + 1 < j)))
  have HO3 := Lib.hid ((Only.of_below (S := fun k => k = r ∨ x.ownBlock = some k) HB.out).trans ho (fun _ _ e => e))
  have HRW := Lib.hid (And.intro hrow (show (Value.slice A nL cap).ownBlock ≠ some (w.heap.size + 1) from fun e => by have := (hrow.lt e).1; omega))
  clear KA ho e1 e2 e3 e4 e5 e6 hz hrf hx' hsz2 hrow hB hcap
  go_wp2
  (try simp only [Exit.inBlock, Exit.then])
  refine bodyPost_ret (results_single rfl (.cell (w.heap.size + 1) 66 _ (0, 0) _ rfl (set3 HZ3.out _ _ _) Tryz.underlying66 rfl (by kernel_rfl) .nil)) rfl ?_
  have hne : ∀ j, x.ownBlock = some j ∨ w.heap.size + 1 < j → j ≠ w.heap.size + 1 := fun j hj e => by
    rcases hj with h1 | h1
    · have := HXL.out j h1; omega
    · omega
  refine ⟨_, _, rfl, ⟨_, row_nil encFd 5 0 77 _⟩, ⟨_, row_set3 HRW.out.1 HRW.out.2 _ _ _⟩, only_setCells HO3.out (by omega) _ _ _, _, HRF3.out.1.onlyN (only_three _ _ _ _ _) (by omega) (fun j hj e => hne j (HRF3.out.2 j hj) e), fun j hj => ?_⟩
  rcases HRF3.out.2 j hj with h1 | h1
  · exact .inl h1
  · exact .inr (by omega)
/-! WHAT TWO STEPS TELL IS THE SAME -/
theorem row_CF {W : World} {base : Nat} {v : Value} {xs : List S77} (h : Row encFd 5 base 77 W v xs) : ∃ A c, v = .slice A xs.length c ∧ xs.length ≤ c ∧ Kd.C k77 W A xs.length xs := by
  obtain ⟨A, c, h1, h2⟩ := h.slice
  have hR := R_of_row (d := k77) rfl (fun _ => rfl) (fun w b o x => Pr.k77_mkM w b o x) h
  rw [h1] at hR
  exact ⟨A, c, h1, h2, (Kd.R_reads' hR).2.2⟩
theorem eqFired_f (l : List S77) (k : Nat) (hk : l.length < k) (hl : l.length ≤ 4294967296) : lagoonref00_EqFired.f k l l = some true := by
  have go : ∀ d i k : Nat, i + d = l.length → d < k → lagoonref00_EqFired.l0 k l l (i : Int) = some true := by
    intro d
    induction d with
    | zero =>
      intro i k hi hk
      obtain ⟨k, rfl⟩ : ∃ m, k = m + 1 := ⟨k - 1, by omega⟩
      rw [lagoonref00_EqFired.l0, if_neg (by omega)]
    | succ d ih =>
      intro i k hi hk
      obtain ⟨k, rfl⟩ : ∃ m, k = m + 1 := ⟨k - 1, by omega⟩
      rw [lagoonref00_EqFired.l0, if_pos (by omega), if_pos (by omega), if_pos (by omega), if_neg (by simp), w64 (x := (i : Int) + 1) (by omega) (by omega)]
      exact ih (i + 1) k (by omega) (by omega)
  unfold lagoonref00_EqFired.f
  rw [if_pos rfl]
  exact go l.length 0 k (by omega) (by omega)
theorem eqWatches_fk (l : List S57) (k : Nat) (hk : l.length < k) (hl : l.length ≤ 4294967296) : Pr.lagoonref00_EqWatches.f k l l = some true := by
  have go : ∀ d i k : Nat, i + d = l.length → d < k → Pr.lagoonref00_EqWatches.l0 k l l (i : Int) = some true := by
    intro d
    induction d with
    | zero =>
      intro i k hi hk
      obtain ⟨k, rfl⟩ : ∃ m, k = m + 1 := ⟨k - 1, by omega⟩
      rw [Pr.lagoonref00_EqWatches.l0, if_neg (by omega)]
    | succ d ih =>
      intro i k hi hk
      obtain ⟨k, rfl⟩ : ∃ m, k = m + 1 := ⟨k - 1, by omega⟩
      rw [Pr.lagoonref00_EqWatches.l0, if_pos (by omega), if_pos (by omega), if_pos (by omega), if_neg (by simp), w64 (x := (i : Int) + 1) (by omega) (by omega)]
      exact ih (i + 1) k (by omega) (by omega)
  unfold Pr.lagoonref00_EqWatches.f
  rw [if_pos rfl]
  exact go l.length 0 k (by omega) (by omega)
theorem same_calls {W : World} {b1 b2 b3 b4 : Nat} {v1 v2 v3 v4 : Value} (E : Int) {F : List S77} {T : List S57} (h1 : Row encFd 5 b1 77 W v1 F) (h2 : Row encW 3 b2 57 W v2 T) (h3 : Row encFd 5 b3 77 W v3 F) (h4 : Row encW 3 b4 57 W v4 T) (hF : F.length ≤ 64) (hT : T.length ≤ 64) :
    Calls Tryz.prog 10 #[.agg #[.int .i64 E, v1, v2], .agg #[.int .i64 E, v3, v4]] W fun e w' => e = .returned (.bool true) ∧ Below W.heap.size W w' := by
  obtain ⟨A1, c1, rfl, a1, g1⟩ := row_CF h1
  obtain ⟨A2, c2, rfl, a2, g2⟩ := row_CW h2
  obtain ⟨A3, c3, rfl, a3, g3⟩ := row_CF h3
  obtain ⟨A4, c4, rfl, a4, g4⟩ := row_CW h4
  have hf : lagoonlaw18_same.f 65 E F T E F T = some true := by
    unfold lagoonlaw18_same.f
    rw [if_pos rfl, eqFired_f F 65 (by omega) (by omega), Option.bind_some, if_pos rfl, eqWatches_fk T 65 (by omega) (by omega), Option.bind_some]
  refine (Pr.lagoonlaw18_same.calls 65 E A1 c1 F A2 c2 T E A3 c3 F A4 c4 T true W g1 a1 g2 a2 g3 a3 g4 a4 hf).mono ?_
  rintro e w' ⟨he, hB⟩
  exact ⟨he, by first | exact hB | exact hB.below⟩
end Go.Proofs.YtkhnjckkjdldbaaGreatDoor.Q
