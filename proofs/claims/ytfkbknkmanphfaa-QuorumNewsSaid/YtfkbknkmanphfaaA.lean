import Derived.Test.YtfkbknkmanphfaaPQuorumNewsx1
import Derived.Test.YtfkbknkmanphfaaA0
namespace Go.Proofs.Ytfkbknkmanphfaa.Q
open Go.RowKit Go.Proofs.YtfkbknkmanphfaaW.PrintWords
set_option linter.unusedVariables false
set_option linter.unusedSimpArgs false

/-- the weight of the servers of a set in a group, of the first k servers -/
def wsum (ws gs : List Int) (S : Nat → Bool) (g : Int) : Nat → Int
  | 0 => 0
  | k + 1 => wsum ws gs S g k + if gs.getD k 0 = g ∧ S k = true then ws.getD k 0 else 0
/-- how many of the first groups count -/
def cntTo (ws gs : List Int) : Nat → Int
  | 0 => 0
  | g + 1 => cntTo ws gs g + if 0 < wsum ws gs (fun _ => true) g ws.length then 1 else 0
def heldTo (ws gs : List Int) (S : Nat → Bool) : Nat → Int
  | 0 => 0
  | g + 1 => heldTo ws gs S g + if wsum ws gs (fun _ => true) g ws.length < 2 * wsum ws gs S g ws.length then 1 else 0
def hasB (ws gs : List Int) (S : Nat → Bool) : Bool := decide (cntTo ws gs 7 < 2 * heldTo ws gs S 7)

/-- what New lets by -/
structure Valid (ws gs : List Int) : Prop where
  len : gs.length = ws.length
  pos : 1 ≤ ws.length
  le7 : ws.length ≤ 7
  wr : ∀ i, i < ws.length → 0 ≤ ws.getD i 0 ∧ ws.getD i 0 ≤ 100
  gr : ∀ i, i < ws.length → 0 ≤ gs.getD i 0 ∧ gs.getD i 0 < 7
  some : 0 < cntTo ws gs 7

/-- a System in memory -/
structure Sys (w : World) (b : Nat) (ws gs : List Int) : Prop where
  v : Valid ws gs
  mem : ∃ (aw ag : Addr) (cw cg : Nat), w.cell? ⟨b, 0, none⟩ = some (.slice (some aw) ws.length cw) ∧ w.cell? ⟨b, 1, none⟩ = some (.slice (some ag) ws.length cg) ∧
    (∀ g : Nat, g < 7 → w.cell? ⟨b, 2 + g, none⟩ = some (.int .i64 (wsum ws gs (fun _ => true) g ws.length))) ∧ w.cell? ⟨b, 9, none⟩ = some (.int .i64 (cntTo ws gs 7)) ∧
    (∀ i, i < ws.length → w.cell? (aw.add i) = some (.int .i64 (ws.getD i 0))) ∧ (∀ i, i < ws.length → w.cell? (ag.add i) = some (.int .i64 (gs.getD i 0)))

theorem Sys.below {w w1 : World} {b : Nat} {ws gs : List Int} (h : Sys w b ws gs) (hb : Below w.heap.size w w1) : Sys w1 b ws gs := by
  obtain ⟨v, aw, ag, cw, cg, h0, h1, h2, h3, h4, h5⟩ := h
  exact ⟨v, aw, ag, cw, cg, pw_cell_below hb h0, pw_cell_below hb h1, fun g hg => pw_cell_below hb (h2 g hg), pw_cell_below hb h3, fun i hi => pw_cell_below hb (h4 i hi), fun i hi => pw_cell_below hb (h5 i hi)⟩

/-- (*System).zero -/
theorem zero_sys (b : Nat) (ws gs : List Int) (w : World) (h : Sys w b ws gs) :
    Calls Try.prog 33 #[.pointer (some ⟨b, 0, none⟩)] w fun e w' => e = .returned (.bool false) ∧ w = w' := by
  obtain ⟨v, aw, ag, cw, cg, h0, h1, h2, h3, h4, h5⟩ := h
  have hs := v.some
  have hs1 : ((cntTo ws gs 7) == 0) = false := by rw [beq_eq_false_iff_ne]; omega
  clear h0 h1 h2 h4 h5 v
  go_enter Try.func33, Try.ntmps33
  go_wp2
  go_ret
  exact ⟨rfl, rfl⟩

/-- (*System).Size -/
theorem size_sys (b : Nat) (ws gs : List Int) (w : World) (h : Sys w b ws gs) :
    Calls Try.prog 24 #[.pointer (some ⟨b, 0, none⟩)] w fun e w' => e = .returned (.int .i64 ws.length) ∧ w = w' := by
  have H := Lib.hid h
  obtain ⟨v, aw, ag, cw, cg, h0, h1, h2, h3, h4, h5⟩ := h
  clear h1 h2 h3 h4 h5 v
  go_enter Try.func24, Try.ntmps24
  go_wp2_with (go_at_call 33; refine (zero_sys _ _ _ _ H.out).mono ?_; rintro e w' ⟨rfl, rfl⟩)
  go_ret
  exact ⟨rfl, rfl⟩

/-- (*System).is -/
theorem is_sys (b : Nat) (ws gs : List Int) (w : World) (h : Sys w b ws gs) (n : Int) (hn : -128 ≤ n ∧ n ≤ 127) :
    Calls Try.prog 39 #[.pointer (some ⟨b, 0, none⟩), .int .i8 n] w fun e w' => e = .returned (.bool (decide (0 ≤ n) && decide (n < ws.length))) ∧ w = w' := by
  have H := Lib.hid h
  clear h
  obtain ⟨hn1, hn2⟩ := hn
  by_cases h0 : 0 ≤ n
  · go_enter Try.func39, Try.ntmps39
    go_wp2_with (go_at_call 24; refine (size_sys _ _ _ _ H.out).mono ?_; rintro e w' ⟨rfl, rfl⟩)
    go_ret
    exact ⟨by simp [h0], rfl⟩
  · go_enter Try.func39, Try.ntmps39
    go_wp2
    go_ret
    exact ⟨by simp; omega, rfl⟩

def tbl (f : Nat → Int) : Array Value := #[.int .i64 (f 0), .int .i64 (f 1), .int .i64 (f 2), .int .i64 (f 3), .int .i64 (f 4), .int .i64 (f 5), .int .i64 (f 6)]
theorem tbl_size (f : Nat → Int) : (tbl f).size = 7 := rfl
theorem tbl_get (f : Nat → Int) (g : Nat) (hg : g < 7) : (tbl f)[g]? = some (.int .i64 (f g)) := by
  have : g = 0 ∨ g = 1 ∨ g = 2 ∨ g = 3 ∨ g = 4 ∨ g = 5 ∨ g = 6 := by omega
  rcases this with rfl | rfl | rfl | rfl | rfl | rfl | rfl <;> rfl
theorem tbl_set (f f' : Nat → Int) (g : Nat) (v : Int) (hg : g < 7) (h1 : f' g = v) (h2 : ∀ j, j ≠ g → f' j = f j) : (tbl f).setIfInBounds g (.int .i64 v) = tbl f' := by
  apply Array.ext_getElem?
  intro j
  rw [Array.getElem?_setIfInBounds]
  by_cases hj : g = j
  · subst hj
    rw [if_pos rfl, if_pos (by rw [tbl_size]; omega), tbl_get f' g hg, h1]
  · rw [if_neg hj]
    by_cases h7 : j < 7
    · rw [tbl_get f j h7, tbl_get f' j h7, h2 j (by omega)]
    · rw [Array.getElem?_eq_none (by rw [tbl_size]; omega), Array.getElem?_eq_none (by rw [tbl_size]; omega)]

theorem wsum_bd {ws gs : List Int} (h : Valid ws gs) (S : Nat → Bool) (g : Int) (k : Nat) (hk : k ≤ ws.length) : 0 ≤ wsum ws gs S g k ∧ wsum ws gs S g k ≤ 100 * k := by
  induction k with
  | zero => simp [wsum]
  | succ k ih =>
    have i1 := ih (by omega)
    have i2 := h.wr k (by omega)
    simp only [wsum]
    split <;> (push_cast; omega)

theorem heldTo_bd (ws gs : List Int) (S : Nat → Bool) (g : Nat) : 0 ≤ heldTo ws gs S g ∧ heldTo ws gs S g ≤ g := by
  induction g with
  | zero => simp [heldTo]
  | succ g ih => simp only [heldTo]; split <;> (push_cast; omega)
theorem cntTo_bd (ws gs : List Int) (g : Nat) : 0 ≤ cntTo ws gs g ∧ cntTo ws gs g ≤ g := by
  induction g with
  | zero => simp [cntTo]
  | succ g ih => simp only [cntTo]; split <;> (push_cast; omega)

theorem has_sys (b : Nat) (ws gs : List Int) (w : World) (h : Sys w b ws gs) (s : Int) (hn : 0 ≤ s ∧ s ≤ 255) :
    Calls Try.prog 20 #[.pointer (some ⟨b, 0, none⟩), .int .u8 s] w fun e w' => e = .returned (.bool (hasB ws gs (inS s))) ∧ Below w.heap.size w w' := by
  have H := Lib.hid h
  obtain ⟨v, aw, ag, cw, cg, h0, h1, h2, h3, h4, h5⟩ := h
  obtain ⟨hn1, hn2⟩ := hn
  have hb := World.block_lt_of_cell? w _ h0
  have hvl := v.le7
  have hvp := v.pos
  dsimp only at hb
  go_enter Try.func20, Try.ntmps20
  go_wp2_with (go_at_call 33; refine (zero_sys _ _ _ _ H.out).mono ?_; rintro e w' ⟨rfl, rfl⟩)
  have HV := Lib.hid v
  clear v
  have e0 : (w.alloc (.cells #[.int .i64 0, .int .i64 0, .int .i64 0, .int .i64 0, .int .i64 0, .int .i64 0, .int .i64 0] 64)).heap[w.heap.size]? = some (.cells (tbl fun g => wsum ws gs (inS s) g 0) 64 (0, 0)) := heap_alloc_new w _
  have HE := Lib.hid e0
  clear e0
  have G4 := Lib.hid h4
  have G5 := Lib.hid h5
  have G2 := Lib.hid h2
  clear h2 h4 h5
  go_loopw [18] (fun v wr => ∃ k : Nat, k ≤ ws.length ∧ v = .int .i64 k ∧ Hid (wr.heap[w.heap.size]? = some (.cells (tbl fun g => wsum ws gs (inS s) g k) 64 (0, 0))) ∧ Hid (Below w.heap.size w wr)) (fun v _ => ws.length - (intOf v).toNat)
  case atStart => exact ⟨0, by omega, rfl, HE, Lib.hid (below_alloc (Below.refl _ _) _)⟩
  case round =>
    obtain ⟨k, hk, rfl, HT, HB⟩ := hrel
    by_cases hlt : k < ws.length
    · have c0 := pw_cell_below HB.out h0
      have c1 := pw_cell_below HB.out h1
      have c4 := pw_cell_below HB.out (G4.out k hlt)
      have c5 := pw_cell_below HB.out (G5.out k hlt)
      have wr0 := HV.out.wr k hlt
      have gr0 := HV.out.gr k hlt
      have Bt := shift_bit s k hn1 hn2
      have bd := fun g : Int => wsum_bd HV.out (inS s) g k hk
      clear h0 h1
      obtain ⟨y, hy⟩ : ∃ y, ws.getD k 0 = y := ⟨_, rfl⟩
      obtain ⟨g, hg⟩ : ∃ g : Nat, gs.getD k 0 = g := ⟨(gs.getD k 0).toNat, by omega⟩
      rw [hy] at c4 wr0
      rw [hg] at c5 gr0
      obtain ⟨wr1, wr2⟩ := wr0
      have gr2 : g < 7 := by omega
      have bd1 := bd g
      clear bd gr0
      have ct := cell_of_row wr w.heap.size g _ _ _ HT.out
      rw [tbl_get _ g gr2] at ct
      have cf := frozen_of_row wr w.heap.size g _ _ HT.out
      have HG := Lib.hid hg
      have HY := Lib.hid hy
      clear hg hy
      by_cases hin : inS s k = true
      · have HT2 : Hid ((wr.setCell ⟨w.heap.size, g, none⟩ (.int .i64 (wsum ws gs (inS s) g k + y))).heap[w.heap.size]? = some (.cells (tbl fun g => wsum ws gs (inS s) g (k + 1)) 64 (0, 0))) := by
          refine Lib.hid ?_
          rw [heap_setCell_same _ _ _ _ _ _ HT.out]
          rw [tbl_set _ (fun g => wsum ws gs (inS s) g (k + 1)) g _ gr2]
          · simp only [wsum, HG.out, HY.out, hin]; simp
          · intro j hj
            simp only [wsum, HG.out]
            rw [if_neg (by omega)]
            simp
        generalize wsum ws gs (inS s) g k = t at *
        rw [if_pos hin] at Bt
        clear hin
        go_wp2
        exact ⟨⟨k + 1, by omega, by go_num, HT2, Lib.hid (HB.out.setCell (p := ⟨w.heap.size, g, none⟩) (Nat.le_refl _) _)⟩, by simp [intOf]; omega⟩
      · rw [if_neg hin] at Bt
        have HT2 : Hid (wr.heap[w.heap.size]? = some (.cells (tbl fun g => wsum ws gs (inS s) g (k + 1)) 64 (0, 0))) := by
          refine Lib.hid ?_
          rw [HT.out]
          simp only [wsum]
          simp [hin]
        clear hin
        go_wp2
        exact ⟨⟨k + 1, by omega, by go_num, HT2, HB⟩, by simp [intOf]; omega⟩
    · obtain rfl : k = ws.length := by omega
      have c3 := pw_cell_below HB.out h3
      clear h0 h1 h3
      go_wp2_with (refine wpList_load_row rfl 64 _ rfl w.heap.size rfl 64 _ _ _ HT.out Try.underlying64 rfl (by kernel_rfl) ?_)
      have HX : ∀ g : Nat, g < 7 → ∀ w : World, (Instr.index 64 (.agg (tbl fun g => wsum ws gs (inS s) g ws.length)) (.int .i64 (g : Int))).run Try.prog w = .ok (.int .i64 (wsum ws gs (inS s) g ws.length)) w :=
        fun g hg w => run_index_arr1 64 3 7 _ .i64 g _ Try.underlying64 _ Try.underlying3 rfl (by kernel_rfl) hg (tbl_get _ g hg) w
      have HX' := Lib.hid HX
      clear HX
      go_loop [8, 42] (fun h i => ∃ g : Nat, g ≤ 7 ∧ i = .int .i64 g ∧ h = .int .i64 (heldTo ws gs (inS s) g)) (fun _ i => 7 - (intOf i).toNat)
      case atStart => exact ⟨0, by omega, rfl, rfl⟩
      case round =>
        obtain ⟨g, hg, rfl, rfl⟩ := hrel
        have hd := heldTo_bd ws gs (inS s) g
        by_cases hlt : g < 7
        · have hx := HX'.out g hlt
          have ca := pw_cell_below HB.out (G2.out g hlt)
          have b1 := wsum_bd HV.out (inS s) g ws.length (Nat.le_refl _)
          have b2 := wsum_bd HV.out (fun _ => true) g ws.length (Nat.le_refl _)
          have hs : Hid (heldTo ws gs (inS s) (g + 1) = heldTo ws gs (inS s) g + if wsum ws gs (fun _ => true) g ws.length < 2 * wsum ws gs (inS s) g ws.length then 1 else 0) := rfl
          generalize wsum ws gs (inS s) g ws.length = p at *
          generalize wsum ws gs (fun _ => true) g ws.length = q at *
          generalize heldTo ws gs (inS s) g = hh at *
          by_cases hpq : q < 2 * p
          · go_wp2
            exact ⟨⟨g + 1, by omega, by go_num, by rw [hs.out, if_pos hpq]⟩, by simp [intOf]; omega⟩
          · go_wp2
            exact ⟨⟨g + 1, by omega, by go_num, by rw [hs.out, if_neg hpq, Int.add_zero]⟩, by simp [intOf]; omega⟩
        · obtain rfl : g = 7 := by omega
          have hc := cntTo_bd ws gs 7
          go_wp2
          go_ret
          exact ⟨rfl, HB.out⟩
end Go.Proofs.Ytfkbknkmanphfaa.Q
