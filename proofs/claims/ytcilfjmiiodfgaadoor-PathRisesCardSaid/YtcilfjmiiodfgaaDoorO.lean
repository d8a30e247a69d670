import Derived.Test.YtcilfjmiiodfgaaDoorN
namespace Go.Proofs.YtcilfjmiiodfgaaDoor.Q
open Go.RowKit Go.Shelf Go.Proofs.YtcilfjmiiodfgaaDoorW.PrintWords Go.Proofs.YtcilfjmiiodfgaaDoor.Pr
set_option linter.unusedVariables false
set_option linter.unusedSimpArgs false
attribute [local go_sem] Oper.semAt_some

theorem above_call (p : ByteArray) (w : World) : Calls Tryd.prog 27 #[.string p] w fun e w' => e = .returned (.func (.func 40) #[] #[.pointer (some ⟨w.heap.size, 0, none⟩)]) ∧ w' = w.alloc (.cells #[.string p] 9) := by
  go_enter Tryd.func27, Tryd.ntmps27
  go_wp2
  go_ret
  exact ⟨rfl, rfl⟩
/-! BELOW -/
noncomputable instance (p q : ByteArray) : Decidable (q ∈ aboveP p) := Classical.propDecidable _
noncomputable def belowP (p q : ByteArray) : Bool := isP p && isP q && decide (q ∈ aboveP p)
theorem mem_above {p q : ByteArray} (hp : isP p = true) (hr : ¬ p.toList = [47]) (hq : isP q = true) : q ∈ aboveP p ↔ q.toList = [47] ∨ (q.size < p.size ∧ (p.extract 0 q.size).toList = q.toList ∧ (p.get! q.size).toNat = 47) := by
  have hsl := isP_slash hq
  unfold aboveP
  rw [if_pos ⟨hp, hr⟩, List.mem_cons, mem_ups p.size 1 (by omega)]
  constructor
  · rintro (rfl | ⟨j, h1, h2, h3, rfl⟩)
    · left; rw [Lib.toList_data]; rfl
    · right
      have hz : (p.extract 0 j).size = j := by rw [ByteArray.size_extract]; omega
      rw [hz]; exact ⟨h2, rfl, h3⟩
  · rintro (h | ⟨h1, h2, h3⟩)
    · left; exact root_is h
    · right
      exact ⟨q.size, hsl.1, h1, h3, (toList_inj h2).symm⟩
theorem refBelow_f (p q : ByteArray) (hp : p.size ≤ 2147483648) (hq : q.size ≤ 2147483648) (k : Nat) (hk : 4 * (p.size + q.size) + 60 ≤ k) : lagoonref05_Below.f k p q = some (belowP p q) := by
  unfold lagoonref05_Below.f belowP
  rw [is_f p (by omega) _ (by omega), Option.bind_some]
  cases h1 : isP p with
  | false => rw [if_neg (by simp)]; rfl
  | true =>
    rw [if_pos rfl, is_f q (by omega) _ (by omega), Option.bind_some]
    cases h2 : isP q with
    | false => rw [if_neg (by simp)]; rfl
    | true =>
      rw [if_pos rfl]
      by_cases hr : p.toList = [47]
      · rw [if_pos hr]
        have : aboveP p = [] := by unfold aboveP; rw [if_neg (fun x => x.2 hr)]
        have hn : ¬ q ∈ aboveP p := by rw [this]; simp
        simp [hn]
      · rw [if_neg hr]
        have hm := mem_above h1 hr h2
        by_cases hq1 : q.toList = [47]
        · rw [if_pos hq1]
          simp [hm.2 (.inl hq1)]
        · rw [if_neg hq1]
          by_cases hz : q.size < p.size
          · rw [if_pos (by omega), if_pos (by omega), if_pos (by omega)]
            have e0 : ((q.size : Int)).toNat = q.size := by omega
            rw [e0]
            by_cases he : (p.extract 0 q.size).toList = q.toList
            · rw [if_pos he, if_pos (by omega), bt_get p q.size hz]
              by_cases h47 : (p.get! q.size).toNat = 47
              · have e1 : (((p.get! q.size).toNat : Int) == 47) = true := by rw [h47]; rfl
                rw [e1]; simp [hm.2 (.inr ⟨hz, he, h47⟩)]
              · have e1 : (((p.get! q.size).toNat : Int) == 47) = false := by rw [beq_eq_false_iff_ne]; omega
                have hn : ¬ q ∈ aboveP p := fun x => by
                  rcases hm.1 x with h | h
                  · exact hq1 h
                  · exact h47 h.2.2
                rw [e1]; simp [hn]
            · have hn : ¬ q ∈ aboveP p := fun x => by
                rcases hm.1 x with h | h
                · exact hq1 h
                · exact he h.2.1
              rw [if_neg he]; simp [hn]
          · have hn : ¬ q ∈ aboveP p := fun x => by
              rcases hm.1 x with h | h
              · exact hq1 h
              · exact hz h.1
            rw [if_neg (by omega)]; simp [hn]
theorem refBelow_calls (p q : ByteArray) (w : World) (hp : p.size ≤ 2147483648) (hq : q.size ≤ 2147483648) : Calls Tryd.prog 16 #[.string p, .string q] w fun e w' => e = .returned (.bool (belowP p q)) ∧ Below w.heap.size w w' :=
  lagoonref05_Below.calls (4 * (p.size + q.size) + 60) p q _ w (refBelow_f p q hp hq _ (Nat.le_refl _))
def Two (w W : World) (q : ByteArray) (b : Bool) : Prop :=
  W.heap[w.heap.size]? = some (.cells #[.string q] 9 (0, 0)) ∧ W.heap[w.heap.size + 1]? = some (.cells #[.bool b] 4 (0, 0)) ∧ Below w.heap.size w W
theorem Two.grown {w W W' : World} {q : ByteArray} {b : Bool} {row : Option Nat} {B : Nat} (h : Two w W q b) (hg : W.grownBy W' row) (hr : ∀ r, row = some r → B ≤ r) (hB : w.heap.size + 2 ≤ B) : Two w W' q b :=
  ⟨grown_kept hg hr h.1 (by omega), grown_kept hg hr h.2.1 (by omega), below_of_grown h.2.2 hg (fun k e => by have := hr k e; omega)⟩
theorem Two.below {w W W' : World} {q : ByteArray} {b : Bool} (h : Two w W q b) (hB : Below W.heap.size W W') : Two w W' q b :=
  ⟨(hB.block _ (Array.getElem?_eq_some_iff.1 h.1).1).trans h.1, (hB.block _ (Array.getElem?_eq_some_iff.1 h.2.1).1).trans h.2.1, below_step h.2.2 hB⟩
theorem Two.only {w W W' : World} {q : ByteArray} {b : Bool} {S : Nat → Prop} (h : Two w W q b) (ho : Only S W W') (hS : ∀ k, S k → w.heap.size + 2 ≤ k) : Two w W' q b :=
  ⟨ho.blk h.1 (fun s => by have := hS _ s; omega), ho.blk h.2.1 (fun s => by have := hS _ s; omega), ho.from h.2.2 (fun k s => by have := hS _ s; omega)⟩
theorem Two.set1 {w W : World} {q : ByteArray} {b : Bool} (h : Two w W q b) (c : Bool) : Two w (W.setCell ⟨w.heap.size + 1, 0, none⟩ (.bool c)) q c :=
  ⟨(blk_other _ _ _ (by show w.heap.size ≠ w.heap.size + 1; omega)).trans h.1, heap_setCell_same W _ 0 _ _ _ h.2.1, h.2.2.setCell (p := ⟨w.heap.size + 1, 0, none⟩) (by simp) _⟩
theorem Two.c0 {w W : World} {q : ByteArray} {b : Bool} (h : Two w W q b) : W.cell? ⟨w.heap.size, 0, none⟩ = some (.string q) := (cell_of_row W w.heap.size 0 _ _ _ h.1).trans rfl
theorem Two.c1 {w W : World} {q : ByteArray} {b : Bool} (h : Two w W q b) : W.cell? ⟨w.heap.size + 1, 0, none⟩ = some (.bool b) := (cell_of_row W (w.heap.size + 1) 0 _ _ _ h.2.1).trans rfl
theorem Two.z1 {w W : World} {q : ByteArray} {b : Bool} (h : Two w W q b) : W.frozen? ⟨w.heap.size + 1, 0, none⟩ = false := frozen_of_row W (w.heap.size + 1) 0 _ _ h.2.1
theorem two_new (w : World) (q : ByteArray) : Two w ((w.alloc (.cells #[.string q] 9)).alloc (.cells #[.bool false] 4)) q false := by
  refine ⟨?_, ?_, below_alloc (below_alloc (Below.refl _ w) _) _⟩
  · rw [heap_alloc_old _ _ (by simp)]; exact heap_alloc_new w _
  · have := heap_alloc_new (w.alloc (.cells #[.string q] 9)) (.cells #[.bool false] 4)
    rwa [World.size_alloc] at this
def BelowPost (p q : ByteArray) (w : World) (e : Ending) (w' : World) : Prop := e = .returned (.bool (belowP p q)) ∧ Below w.heap.size w w'
theorem below_end {p q : ByteArray} {w W : World} {n D : Nat} {tmps : Array Value} {b : Bool} (h : Two w W q b) (hD : W.heap[D]? = some (.deferred (some []))) (hDw : w.heap.size + 2 ≤ D) (hb : b = belowP p q)
    (h4 : tmps.getD 4 undef = .pointer (some ⟨w.heap.size + 1, 0, none⟩)) :
    LeavesInM Fence.wide n Tryd.prog Tryd.f15 tmps (BelowPost p q w) [{ target := .collected D, args := #[] }] .returning W := by
  have hS : Two w (W.putObj D (.deferred none)) q b := h.only ((Only.refl (fun k => k = D) W).putObj rfl _) (fun k e => by omega)
  refine ⟨by simp, .inl ⟨_, _, rfl, run_takeDeferred hD, ?_⟩⟩
  exact ⟨_, results_cells1 rfl _ _ _ h4 (agg4 _) hS.c1, by rw [hb], hS.2.2⟩
def BelI (p q : ByteArray) (w : World) (pre : List ByteArray) (W : World) : Prop := ¬ q ∈ pre ∧ Two w W q false
def BelX (p q : ByteArray) (w : World) (c : Code) (W : World) : Prop := c = .ret ∧ q ∈ aboveP p ∧ Two w W q true
set_option maxHeartbeats 8000000 in
set_option maxRecDepth 100000 in
theorem below_yes (p q : ByteArray) (w : World) (hs : p.size ≤ 2147483648) (hsq : q.size ≤ 2147483648) (hT : Tabs w) (hp : isP p = true) (hq : isP q = true) : Calls Tryd.prog 15 #[.string p, .string q] w (BelowPost p q w) := by
  have HT := Lib.hid hT
  have HBP : Hid (belowP p q = decide (q ∈ aboveP p)) := Lib.hid (by unfold belowP; rw [hp, hq]; rfl)
  have T0 := two_new w q
  have KI := is_calls p _ hs (tabs_from hT T0.2.2)
  rw [hp] at KI
  have HK := Lib.hid KI
  have KQ := fun w => is_calls q w hsq
  rw [hq] at KQ
  have HKQ := Lib.hid KQ
  have HT0 := Lib.hid T0
  clear hT KI KQ T0 hp hq
  refine (callsIn_wide (n := 5)).1 ?_
  refine callsIn_of_wp_marks Tryd.func15 rfl trivial ?_ rfl
  simp only [Tryd.ntmps15, List.size_toArray, List.length_cons, List.length_nil, Nat.reduceAdd, Nat.reduceSub, Array.replicate_succ, Array.replicate_zero, List.push_toArray, List.append_toArray, List.nil_append, List.cons_append]
  gi_wp2_with fail
  refine ⟨trivial, (callsIn_wide.2 HK.out).mono ?_⟩
  rintro e w1 ⟨rfl, hB⟩
  have H1 := Lib.hid (HT0.out.below hB)
  have x0 := H1.out.c0
  clear hB HK HT0
  gi_wp2_with fail
  refine ⟨trivial, (callsIn_wide.2 (HKQ.out w1 (tabs_from HT.out H1.out.2.2))).mono ?_⟩
  rintro e w2 ⟨rfl, hB⟩
  have H2 := Lib.hid (H1.out.below hB)
  clear hB HKQ H1 x0
  gi_wp2_with fail
  refine ⟨trivial, (callsIn_wide.2 (above_call p w2)).mono ?_⟩
  rintro e w3 ⟨rfl, rfl⟩
  have hbox := heap_alloc_new w2 (.cells #[.string p] 9)
  have hsz : (w2.alloc (.cells #[.string p] 9)).heap.size = w2.heap.size + 1 := by simp
  have H3 := Lib.hid (H2.out.below (below_alloc (Below.refl _ w2) (.cells #[.string p] 9)))
  have hw2 : w.heap.size + 2 ≤ w2.heap.size := by have := (Array.getElem?_eq_some_iff.1 H2.out.2.1).1; omega
  obtain ⟨w4, hw4⟩ : ∃ V, w2.alloc (.cells #[.string p] 9) = V := ⟨_, rfl⟩
  obtain ⟨b, hb⟩ : ∃ b, w2.heap.size = b := ⟨_, rfl⟩
  rw [hw4, hb] at hbox hsz
  rw [hw4] at H3
  rw [hb] at hw2
  rw [hw4, hb]
  have HBOX := Lib.hid hbox
  clear hw4 hb H2 hbox
  gi_wp2_with fail
  rename_i KK aK
  have HX := Lib.hid aK
  clear aK
  refine range_z (F := Fence.wide) rfl (by decide) (gf := 40) (lb := #[.pointer (some ⟨b, 0, none⟩)]) rfl trivial (enters_of Tryd.func40 (by kernel_rfl) rfl)
    (above_gives _ (by decide) b p hs) (fun W hB => ⟨(hB.block _ (by omega)).trans HBOX.out, tabs_from HT.out (below_step H3.out.2.2 hB)⟩) (fun _ => rfl) (fun k hk => by omega) (fun k hk => hk.elim)
    (BelI p q w) (fun c _ W => BelX p q w c W) ?hI ?hIx ?hIz ⟨by simp, H3.out⟩ ?ex ?done ?stop
  case hI =>
    rintro pre A C row ⟨h1, h3⟩ hg hr
    exact ⟨h1, h3.grown hg (fun r e => (hr r e).1) (by omega)⟩
  case hIx =>
    rintro c pre A C row ⟨h1, h2, h3⟩ hg hr
    exact ⟨h1, h2, h3.grown hg (fun r e => (hr r e).1) (by omega)⟩
  case hIz =>
    rintro pre A C ⟨h1, h3⟩ ho
    exact ⟨h1, h3.only ho (fun k hk => hk.elim)⟩
  case ex =>
    apply Exists.intro
    refine ⟨?assign, ?body⟩
    case assign =>
      intro l' x W2 K hK
      simp only [encT]
      gi_wp2
      exact hK
    case body =>
      rintro l' pre x A ⟨h1, h3⟩ hlen ⟨rest, hnx⟩
      have x0 := h3.c0
      have x1 := h3.c1
      have z1 := h3.z1
      have H := Lib.hid (And.intro h1 (And.intro h3 hnx))
      clear h1 h3 hnx
      by_cases hxq : x = q
      · have e1 : (x.toList == q.toList) = true := by rw [hxq]; simp
        have e2 : x.toList = q.toList := by rw [hxq]
        have HQ := Lib.hid hxq
        clear hxq
        gi_wp2
        exact ⟨(KeepsOthers.setCell _ _ _).from _, rfl, by rw [H.out.2.2, ← HQ.out]; simp, H.out.2.1.set1 true⟩
      · have e0 : ¬ x.toList = q.toList := fun h => hxq (toList_inj h)
        have e1 : (x.toList == q.toList) = false := beq_eq_false_iff_ne.mpr e0
        have HQ := Lib.hid hxq
        clear hxq
        gi_wp2
        exact ⟨KeepsFrom.refl _ _, Only.refl _ _, by simp only [List.mem_append, List.mem_singleton, not_or]; exact ⟨H.out.1, fun h => HQ.out h.symm⟩, H.out.2.1⟩
  case done =>
    rintro xs A rfl ⟨h1, h3⟩ hD
    have x1 := h3.c1
    have z1 := h3.z1
    rw [hsz] at hD
    have hne : b + 1 ≠ w.heap.size + 1 := by omega
    have hD2 : (A.setCell ⟨w.heap.size + 1, 0, none⟩ (.bool false)).heap[b + 1]? = some (.deferred (some [])) := (blk_other _ _ _ hne).trans hD
    have HD := Lib.hid hD2
    have H := Lib.hid (And.intro h1 h3)
    have hb4 : w.heap.size + 2 ≤ b + 1 := by omega
    clear h1 h3 hD hD2 hne
    refine HX.out _ _ ?_
    gi_wp2
    exact below_end (H.out.2.set1 false) HD.out hb4 (by rw [HBP.out]; simp [H.out.1]) rfl
  case stop =>
    rintro c pre A _ ⟨rfl, h2, h3⟩ hD
    have hb4 : w.heap.size + 2 ≤ w4.heap.size := by omega
    gi_wp2
    exact below_end h3 hD hb4 (by rw [HBP.out]; simp [h2]) rfl
set_option maxHeartbeats 4000000 in
set_option maxRecDepth 100000 in
theorem below_no (p q : ByteArray) (w : World) (hs : p.size ≤ 2147483648) (hsq : q.size ≤ 2147483648) (hT : Tabs w) (h : ¬ (isP p = true ∧ isP q = true)) : Calls Tryd.prog 15 #[.string p, .string q] w (BelowPost p q w) := by
  have HT := Lib.hid hT
  have HBP : Hid (belowP p q = false) := Lib.hid (by
    unfold belowP
    cases h1 : isP p with
    | false => rfl
    | true =>
      cases h2 : isP q with
      | false => rfl
      | true => exact absurd ⟨h1, h2⟩ h)
  have T0 := two_new w q
  have KI := is_calls p _ hs (tabs_from hT T0.2.2)
  have HT0 := Lib.hid T0
  clear hT T0
  cases hp : isP p with
  | false =>
    rw [hp] at KI
    have HK := Lib.hid KI
    clear KI hp h
    go_enter Tryd.func15, Tryd.ntmps15
    go_wp2_with fail
    refine HK.out.mono ?_
    rintro e w1 ⟨rfl, hB⟩
    have H1 := Lib.hid (HT0.out.below hB)
    have x1 := H1.out.c1
    have z1 := H1.out.z1
    clear hB HK HT0
    go_wp2
    exact bodyPost_ret (results_cells1 rfl _ _ _ rfl (agg4 _) (H1.out.set1 false).c1) rfl ⟨by rw [HBP.out], (H1.out.set1 false).2.2⟩
  | true =>
    rw [hp] at KI
    have HK := Lib.hid KI
    have hq : isP q = false := by
      cases h2 : isP q with
      | false => rfl
      | true => exact absurd ⟨hp, h2⟩ h
    have KQ := fun w => is_calls q w hsq
    rw [hq] at KQ
    have HKQ := Lib.hid KQ
    clear KI KQ hp hq h
    go_enter Tryd.func15, Tryd.ntmps15
    go_wp2_with fail
    refine HK.out.mono ?_
    rintro e w1 ⟨rfl, hB⟩
    have H1 := Lib.hid (HT0.out.below hB)
    have x0 := H1.out.c0
    clear hB HK HT0
    go_wp2_with fail
    refine (HKQ.out w1 (tabs_from HT.out H1.out.2.2)).mono ?_
    rintro e w2 ⟨rfl, hB⟩
    have H2 := Lib.hid (H1.out.below hB)
    have x1 := H2.out.c1
    have z1 := H2.out.z1
    clear hB HKQ H1 x0
    go_wp2
    exact bodyPost_ret (results_cells1 rfl _ _ _ rfl (agg4 _) (H2.out.set1 false).c1) rfl ⟨by rw [HBP.out], (H2.out.set1 false).2.2⟩
theorem below_calls (p q : ByteArray) (w : World) (hs : p.size ≤ 2147483648) (hsq : q.size ≤ 2147483648) (hT : Tabs w) : Calls Tryd.prog 15 #[.string p, .string q] w fun e w' => e = .returned (.bool (belowP p q)) ∧ Below w.heap.size w w' := by
  by_cases h : isP p = true ∧ isP q = true
  · exact below_yes p q w hs hsq hT h.1 h.2
  · exact below_no p q w hs hsq hT h
end Go.Proofs.YtcilfjmiiodfgaaDoor.Q
