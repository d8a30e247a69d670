import Derived.Test.YtkhnjckkjdldbaaGreatDoorGe
import Derived.Test.YtkhnjckkjdldbaaGreatDoorK16
namespace Go.Proofs.YtkhnjckkjdldbaaGreatDoor.Q
open Go.RowKit Go.Proofs.YtkhnjckkjdldbaaGreatDoorW.PrintWords Go.Deep Go.Maps Go.WideShapes
open Go.Proofs.YtkhnjckkjdldbaaGreatDoor.Pr (S57 S59 S77 S61 k57 k77 rd_T57)
open Go.Proofs.YtkhnjckkjdldbaaGreatDoor
open Go.Proofs.YtkhnjckkjdldbaaGreatDoor.Bag (Row encFd own_lower AppTo wpList_app)
set_option linter.unusedVariables false
set_option linter.unusedSimpArgs false
attribute [local go_sem] Oper.semAt_some
attribute [local go_sem high] Pr.eqA57
/-! THE DOCUMENT's BOARD (printed by mkref.py) -/
structure RefI (r base : Nat) (x : Value) (L : List S57) (W : World) : Prop where
  blk : W.heap[r]? = some (.cells #[x] 82 (0, 0))
  row : Row encW 3 base 57 W x L
  lo : r < base
  hi : base ≤ W.heap.size
  few : L.length ≤ 64
theorem RefI.below {r base : Nat} {x : Value} {L : List S57} {W W' : World} (h : RefI r base x L W) (hB : Below W.heap.size W W') : RefI r base x L W' :=
  ⟨blkK h.blk hB, h.row.of_below hB, h.lo, Nat.le_trans h.hi hB.size, h.few⟩
/-- its list, read -/
theorem RefI.read {r base : Nat} {x : Value} {L : List S57} {W : World} (h : RefI r base x L W) : ∃ A c, x = .slice A L.length c ∧ L.length ≤ c ∧ W.cell? ⟨r, 0, none⟩ = some (.slice A L.length c) ∧ Kd.C k57 W A L.length L := by
  obtain ⟨A, c, h1, h2, h3⟩ := row_CW h.row
  exact ⟨A, c, h1, h2, by rw [← h1]; exact cell_rowK h.blk rfl, h3⟩
/-- its list is another one now: in its own block, or in a new one -/
theorem RefI.turn {r base : Nat} {x x' : Value} {L L' : List S57} {W W' : World} {S : Nat → Prop} (h : RefI r base x L W) (ho : Only S W W') (hx : W'.heap[r]? = some (.cells #[x'] 82 (0, 0))) (hr : Row encW 3 base 57 W' x' L') (hf : L'.length ≤ 64) : RefI r base x' L' W' :=
  ⟨hx, hr, h.lo, Nat.le_trans h.hi ho.size, hf⟩
set_option maxRecDepth 100000 in
set_option maxHeartbeats 8000000 in
theorem rAll_calls {r base : Nat} {x : Value} {L : List S57} {w : World} (h : RefI r base x L w) :
    Calls Tryz.prog 14 #[.pointer (some ⟨r, 0, none⟩)] w fun e w' => ∃ v, e = .returned v ∧ Row encW 3 w.heap.size 57 w' v L ∧ Below w.heap.size w w' := by
  obtain ⟨A, cx, hx, hcx, hcell, hC⟩ := h.read
  have hrw : r < w.heap.size := (Array.getElem?_eq_some_iff.1 h.blk).1
  have HC := Lib.hid (And.intro hC hcell)
  have HRF := Lib.hid h
  have hfew := h.few
  obtain ⟨n, hn⟩ : ∃ n, L.length = n := ⟨_, rfl⟩
  have HN := Lib.hid hn
  rw [hn] at hcx hfew
  obtain ⟨iW, hi, hz0, hz1, hz2⟩ := info_parts infoW
  have HI := Lib.hid (And.intro hi (And.intro hz0 (And.intro hz1 hz2)))
  clear hC hcell h hn hi hz0 hz1 hz2

  subst hx
  go_enter Tryz.func14, Tryz.ntmps14
  go_wp2_with fail
  go_loopw [3, 4] (fun vl vi wr => ∃ i : Int, vi = .int .i64 i ∧ 0 ≤ i ∧ i ≤ (n : Int) ∧ Hid (LeftI w L (fun _ => true) i.toNat vl wr)) (fun _ vi _ => ((n : Int) - intOf vi).toNat)
  case atStart => exact ⟨0, rfl, by omega, by omega, Lib.hid ⟨Below.refl _ _, World.ownsRow_nil _ _ _ _⟩⟩
  case round =>
  obtain ⟨i, rfl, i0, iN, HL⟩ := hrel
  obtain ⟨vl, hvl⟩ := HL.out.val
  subst hvl

  have cr : wr.cell? ⟨r, 0, none⟩ = some (.slice A n cx) := by have h1 := pw_cell_below HL.out.bel HC.out.2; rw [HN.out] at h1; exact h1

  by_cases c2 : i < (n : Int)
  · have q2 : decide (i < (n : Int)) = true := decide_eq_true c2
    have hi : i.toNat < L.length := by rw [HN.out]; omega
    obtain ⟨ad, eA, o0, o1, o2⟩ := Pr.at_T57 (Kd.C_below HC.out.1 HL.out.bel) i i0 (by rw [HN.out]; exact c2)
    have hrd : rd_T57 L i = L[i.toNat] := by simp [rd_T57, List.getD, List.getElem?_eq_getElem hi]
    rw [hrd] at o0 o1 o2
    obtain ⟨y, hy⟩ : ∃ y, L[i.toNat] = y := ⟨_, rfl⟩
    rw [hy] at o0 o1 o2
    have HY := Lib.hid hy
    subst eA
    obtain ⟨a, k, p⟩ := y
    simp only at o0 o1 o2
    have i0' := eq_true i0
    have c2' := eq_true c2
    clear hrd hy

    have hn64 : ((L.take i.toNat).filter (fun _ => true)).length ≤ 64 := by
      have h1 := List.length_filter_le (fun _ => true) (L.take i.toNat)
      rw [List.length_take] at h1
      have h2 := HN.out
      omega

    obtain ⟨W4, hW4⟩ : ∃ V, wr.alloc (.cells #[Value.int .i64 a, Value.int .i8 k, Value.string p] 57) = V := ⟨_, rfl⟩
    have hB4 : Below wr.heap.size wr W4 := by rw [← hW4]; exact below_alloc (Below.refl _ _) _
    have hz4 := World.alloc_heap_new wr (.cells #[Value.int .i64 a, Value.int .i8 k, Value.string p] 57)
    rw [hW4] at hz4
    have HR4 := Lib.hid (Bag.own_below (HL.out.row) hB4)
    have HOW := Lib.hid HR4.out
    have HNW := Lib.hid (World.news_of_block hz4)
    have HBS : Hid (w.heap.size ≤ W4.heap.size) := Lib.hid (Nat.le_trans (HL.out.bel.size) hB4.size)
    have HB4 := Lib.hid hB4
    have ho1 : ∀ u ∈ [Value.int .i64 a, Value.int .i8 k, Value.string p], u.oneCell' = true := by simp [Value.oneCell']
    have HO1 := Lib.hid ho1
    have HLN := Lib.hid (hn64)
    rw [← hW4] at HOW HNW HBS
    have HW4 := Lib.hid hW4
    clear hB4 hz4 ho1 hW4
    go_wp2_with (first | (at_builtin; refine wpList_app rfl (.tmp 14) (.tmp 22) 64 rfl 57 iW _ 3 32 Tryz.underlying64 HI.out.1 HI.out.2.1 HI.out.2.2.1 HI.out.2.2.2 rfl (by decide) w.heap.size _ _ _ rfl HOW.out ⟨wr.heap.size, 0, none⟩ 1 [Value.int .i64 a, Value.int .i8 k, Value.string p] rfl rfl HNW.out HO1.out (by have := HLN.out; unfold maxLen; omega) (by have := HLN.out; omega) HBS.out ?_; intro g7 cap7 w7 hown7 hA7; have H7 := Lib.hid (And.intro hown7 hA7); clear hown7 hA7 o0 o1 o2 cr))
    have h7 := H7.out
    rw [HW4.out] at h7

    have HN8 := Lib.hid ((HL.out.below HB4.out).put hi rfl (by have h8 := h7.1; rw [HY.out]; exact h8) h7.2)
    clear h7
    go_wp2
    go_roundw
    case measure => simp [intOf]; omega
    case rel => exact ⟨i + 1, rfl, by omega, by omega, Lib.hid (by rw [show (i + 1).toNat = i.toNat + 1 by omega]; exact HN8.out)⟩
  · have q2 : decide (i < (n : Int)) = false := decide_eq_false c2
    have hin : i.toNat = L.length := by rw [HN.out]; omega
    have HE := HL.out
    rw [hin] at HE
    have HE := Lib.hid HE
    clear hin HL
    go_wp2
    go_ret
    have h1 := HE.out.row
    rw [List.take_length, List.filter_eq_self.2 (fun _ _ => rfl)] at h1
    exact ⟨_, rfl, h1, HE.out.bel⟩
set_option maxRecDepth 100000 in
theorem rClear_calls {r base : Nat} {x : Value} {L : List S57} {w : World} (h : RefI r base x L w) :
    Calls Tryz.prog 24 #[.pointer (some ⟨r, 0, none⟩)] w fun e w' => e = .returned x ∧ Row encW 3 base 57 w' x L ∧ RefI r base (.slice none 0 0) [] w' ∧ Only (fun k => k = r) w w' := by
  obtain ⟨A, cx, hx, hcx, hcell, hC⟩ := h.read
  have hrw : r < w.heap.size := (Array.getElem?_eq_some_iff.1 h.blk).1
  have HC := Lib.hid (And.intro hC hcell)
  have HRF := Lib.hid h
  have hfew := h.few
  obtain ⟨n, hn⟩ : ∃ n, L.length = n := ⟨_, rfl⟩
  have HN := Lib.hid hn
  rw [hn] at hcx hfew
  obtain ⟨iW, hi, hz0, hz1, hz2⟩ := info_parts infoW
  have HI := Lib.hid (And.intro hi (And.intro hz0 (And.intro hz1 hz2)))
  clear hC hcell h hn hi hz0 hz1 hz2

  have hfz := frozen_rowK (j := 0) HRF.out.blk
  have cr : w.cell? ⟨r, 0, none⟩ = some (.slice A n cx) := by have h1 := HC.out.2; rw [HN.out] at h1; exact h1
  subst hx
  rw [HN.out]
  go_enter Tryz.func24, Tryz.ntmps24
  go_wp2
  go_ret
  have ho : Only (fun k => k = r) w (w.setCell ⟨r, 0, none⟩ (.slice none 0 0)) := (Only.refl (fun k => k = r) w).setCell (p := ⟨r, 0, none⟩) (.inl rfl) _
  have hb : (w.setCell ⟨r, 0, none⟩ (.slice none 0 0)).heap[r]? = some (.cells #[.slice none 0 0] 82 (0, 0)) := heap_setCell_same w r 0 _ _ _ HRF.out.blk
  refine ⟨rfl, ?_, HRF.out.turn ho hb (row_nil _ _ _ _ _) (by simp), ho⟩
  have h1 := HRF.out.row.onlyN ho (fun k hk e => by have := (HRF.out.row.lt hk).1; have := HRF.out.lo; omega)
  rw [HN.out] at h1
  exact h1
/-- an append to v: in its own block, or in a new one -/
structure Grew (W w' : World) (v : Value) (g : Nat) : Prop where
  grown : W.grownBy w' v.ownBlock
  at_ : v.ownBlock = some g ∨ W.heap.size ≤ g
theorem Grew.of_app {W w' : World} {v : Value} {n g cap : Nat} (h : AppTo W w' v n g cap) : Grew W w' v g := by
  rcases h with ⟨h1, h2⟩ | ⟨h1, h2⟩
  · have e : v.ownBlock = some g := by rw [h1]; rfl
    exact ⟨by rw [e]; exact h2, .inl e⟩
  · exact ⟨⟨h2.os, h2.tape, h2.output, h2.size, fun k hk _ => h2.block k hk (by simp)⟩, .inr h1⟩
theorem Grew.keep {W w' : World} {v u : Value} {g base e size n : Nat} {xs : List Value} (h : Grew W w' v g) (hr : W.ownsRow base e size u n xs) (hne : ∀ k, u.ownBlock = some k → v.ownBlock ≠ some k) : w'.ownsRow base e size u n xs :=
  own_move hr fun k hk => h.grown.block k (World.ownsRow.lt hr k hk).2 (fun e => hne k hk e.symm)
theorem Grew.only {S : Nat → Prop} {W0 W w' : World} {v : Value} {g : Nat} (h : Grew W w' v g) (ho : Only S W0 W) (hv : ∀ k, v.ownBlock = some k → S k ∨ W0.heap.size ≤ k) : Only S W0 w' :=
  ⟨h.grown.os.trans ho.os, h.grown.tape.trans ho.tape, h.grown.output.trans ho.output, Nat.le_trans ho.size h.grown.size, fun k hk hn => (h.grown.block k (Nat.lt_of_lt_of_le hk ho.size) (fun e => by
    rcases hv k e.symm with h1 | h1
    · exact hn h1
    · omega)).trans (ho.block k hk hn)⟩
theorem Grew.below {W0 W w' : World} {v : Value} {g : Nat} (h : Grew W w' v g) (hB : Below W0.heap.size W0 W) (hv : ∀ k, v.ownBlock = some k → W0.heap.size ≤ k) : Below W0.heap.size W0 w' :=
  ⟨h.grown.os.trans hB.os, h.grown.tape.trans hB.tape, h.grown.output.trans hB.output, Nat.le_trans hB.size h.grown.size, fun k hk => (h.grown.block k (Nat.lt_of_lt_of_le hk hB.size) (fun e => by have := hv k e.symm; omega)).trans (hB.block k hk)⟩
/-- two rows that a loop fills -/
structure TwoI {α : Type} (encT : α → List Value) (szT : Nat) (eT : TypeId) (w : World) (xs : List α) (ys : List S57) (vt vl : Value) (W : World) : Prop where
  bel : Below w.heap.size w W
  rowT : Row encT szT w.heap.size eT W vt xs
  rowL : Row encW 3 w.heap.size 57 W vl ys
  ne : ∀ k, vt.ownBlock = some k → vl.ownBlock ≠ some k
section
variable {α : Type} {encT : α → List Value} {szT : Nat} {eT : TypeId} {w : World} {xs : List α} {ys : List S57} {vt vl : Value} {W W' : World}
theorem TwoI.val (h : TwoI encT szT eT w xs ys vt vl W) : ∃ a b, a = vt ∧ b = vl := ⟨_, _, rfl, rfl⟩
theorem TwoI.start : TwoI encT szT eT w [] [] (.slice none 0 0) (.slice none 0 0) w := ⟨Below.refl _ _, row_nil _ _ _ _ _, row_nil _ _ _ _ _, fun k hk => by cases hk⟩
theorem TwoI.below (h : TwoI encT szT eT w xs ys vt vl W) (hB : Below W.heap.size W W') : TwoI encT szT eT w xs ys vt vl W' := ⟨below_step h.bel hB, h.rowT.of_below hB, h.rowL.of_below hB, h.ne⟩
theorem TwoI.putT (h : TwoI encT szT eT w xs ys vt vl W) {x : α} {g cap : Nat} (hr : W'.ownsRow w.heap.size eT szT (.slice (some ⟨g, 0, none⟩) (xs.length + 1) cap) (xs.length + 1) (xs.flatMap encT ++ encT x)) (hG : Grew W W' vt g) : TwoI encT szT eT w (xs ++ [x]) ys (.slice (some ⟨g, 0, none⟩) (xs.length + 1) cap) vl W' := by
  refine ⟨hG.below h.bel (fun k hk => (h.rowT.lt hk).1), by unfold Row; rw [List.length_append, List.flatMap_append]; simpa using hr, hG.keep h.rowL (fun k hk e => h.ne k e hk), fun k hk e => ?_⟩
  have hk' : k = g := by simpa [Value.ownBlock] using hk.symm
  subst hk'
  rcases hG.at_ with h1 | h1
  · exact h.ne k h1 e
  · have := (h.rowL.lt e).2; omega
theorem TwoI.putL (h : TwoI encT szT eT w xs ys vt vl W) {y : S57} {g cap : Nat} (hr : W'.ownsRow w.heap.size 57 3 (.slice (some ⟨g, 0, none⟩) (ys.length + 1) cap) (ys.length + 1) (ys.flatMap encW ++ encW y)) (hG : Grew W W' vl g) : TwoI encT szT eT w xs (ys ++ [y]) vt (.slice (some ⟨g, 0, none⟩) (ys.length + 1) cap) W' := by
  refine ⟨hG.below h.bel (fun k hk => (h.rowL.lt hk).1), hG.keep h.rowT (fun k hk e => h.ne k hk e), by unfold Row; rw [List.length_append, List.flatMap_append]; simpa using hr, fun k hk e => ?_⟩
  have hk' : k = g := by simpa [Value.ownBlock] using e.symm
  subst hk'
  rcases hG.at_ with h1 | h1
  · exact h.ne k hk h1
  · have := (h.rowT.lt hk).2; omega
theorem TwoI.rowEq (h : TwoI encT szT eT w xs ys vt vl W) {xs' : List α} {ys' : List S57} (h1 : xs = xs') (h2 : ys = ys') : TwoI encT szT eT w xs' ys' vt vl W := by subst h1; subst h2; exact h
end
set_option maxRecDepth 100000 in
set_option maxHeartbeats 8000000 in
theorem rDrop_calls {r base : Nat} {x : Value} {L : List S57} {w : World} (m : Int) (h : RefI r base x L w) :
    Calls Tryz.prog 23 #[.pointer (some ⟨r, 0, none⟩), .int .i64 m] w fun e w' => ∃ v, e = .returned v ∧ Row encW 3 w.heap.size 57 w' v (L.filter fun x => x.f0 == m) ∧ Only (fun k => k = r) w w' ∧ ∃ x', RefI r base x' (L.filter fun x => !(x.f0 == m)) w' ∧ ∀ k, x'.ownBlock = some k → w.heap.size ≤ k := by
  obtain ⟨A, cx, hx, hcx, hcell, hC⟩ := h.read
  have hrw : r < w.heap.size := (Array.getElem?_eq_some_iff.1 h.blk).1
  have HC := Lib.hid (And.intro hC hcell)
  have HRF := Lib.hid h
  have hfew := h.few
  obtain ⟨n, hn⟩ : ∃ n, L.length = n := ⟨_, rfl⟩
  have HN := Lib.hid hn
  rw [hn] at hcx hfew
  obtain ⟨iW, hi, hz0, hz1, hz2⟩ := info_parts infoW
  have HI := Lib.hid (And.intro hi (And.intro hz0 (And.intro hz1 hz2)))
  clear hC hcell h hn hi hz0 hz1 hz2

  subst hx
  go_enter Tryz.func23, Tryz.ntmps23
  go_wp2_with fail
  go_loopw [5, 6, 7] (fun vt vl vi wr => ∃ i : Int, vi = .int .i64 i ∧ 0 ≤ i ∧ i ≤ (n : Int) ∧ Hid (TwoI encW 3 57 w ((L.take i.toNat).filter (fun x => x.f0 == m)) ((L.take i.toNat).filter (fun x => !(x.f0 == m))) vt vl wr)) (fun _ _ vi _ => ((n : Int) - intOf vi).toNat)
  case atStart => exact ⟨0, rfl, by omega, by omega, Lib.hid TwoI.start⟩
  case round =>
  obtain ⟨i, rfl, i0, iN, HL⟩ := hrel
  obtain ⟨vt, vl, hvt, hvl⟩ := HL.out.val
  subst hvt
  subst hvl

  have cr : wr.cell? ⟨r, 0, none⟩ = some (.slice A n cx) := by have h1 := pw_cell_below HL.out.bel HC.out.2; rw [HN.out] at h1; exact h1

  by_cases c2 : i < (n : Int)
  · have q2 : decide (i < (n : Int)) = true := decide_eq_true c2
    have hi : i.toNat < L.length := by rw [HN.out]; omega
    obtain ⟨ad, eA, o0, o1, o2⟩ := Pr.at_T57 (Kd.C_below HC.out.1 HL.out.bel) i i0 (by rw [HN.out]; exact c2)
    have hrd : rd_T57 L i = L[i.toNat] := by simp [rd_T57, List.getD, List.getElem?_eq_getElem hi]
    rw [hrd] at o0 o1 o2
    obtain ⟨y, hy⟩ : ∃ y, L[i.toNat] = y := ⟨_, rfl⟩
    rw [hy] at o0 o1 o2
    have HY := Lib.hid hy
    subst eA
    obtain ⟨a, k, p⟩ := y
    simp only at o0 o1 o2
    have i0' := eq_true i0
    have c2' := eq_true c2
    clear hrd hy

    obtain ⟨qq, hqq⟩ : ∃ v, (a == m) = v := ⟨_, rfl⟩
    have HQ := Lib.hid hqq
    have hn64 : ((L.take i.toNat).filter (fun x => x.f0 == m)).length ≤ 64 ∧ ((L.take i.toNat).filter (fun x => !(x.f0 == m))).length ≤ 64 := by
      have h1 := List.length_filter_le (fun x => x.f0 == m) (L.take i.toNat)
      have h3 := List.length_filter_le (fun x => !(x.f0 == m)) (L.take i.toNat)
      rw [List.length_take] at h1 h3
      have h2 := HN.out
      omega
    have hT : (L.take (i + 1).toNat) = L.take i.toNat ++ [⟨a, k, p⟩] := by
      rw [show (i + 1).toNat = i.toNat + 1 by omega, List.take_add_one, List.getElem?_eq_getElem hi, HY.out]; rfl
    have HTK := Lib.hid hT
    clear hT
    cases qq with
    | true =>
      obtain ⟨W4, hW4⟩ : ∃ V, wr.alloc (.cells #[Value.int .i64 a, Value.int .i8 k, Value.string p] 57) = V := ⟨_, rfl⟩
      have hB4 : Below wr.heap.size wr W4 := by rw [← hW4]; exact below_alloc (Below.refl _ _) _
      have hz4 := World.alloc_heap_new wr (.cells #[Value.int .i64 a, Value.int .i8 k, Value.string p] 57)
      rw [hW4] at hz4
      have HR4 := Lib.hid (Bag.own_below (HL.out.rowT) hB4)
      have HOW := Lib.hid HR4.out
      have HNW := Lib.hid (World.news_of_block hz4)
      have HBS : Hid (w.heap.size ≤ W4.heap.size) := Lib.hid (Nat.le_trans (HL.out.bel.size) hB4.size)
      have HB4 := Lib.hid hB4
      have ho1 : ∀ u ∈ [Value.int .i64 a, Value.int .i8 k, Value.string p], u.oneCell' = true := by simp [Value.oneCell']
      have HO1 := Lib.hid ho1
      have HLN := Lib.hid (hn64.1)
      rw [← hW4] at HOW HNW HBS
      have HW4 := Lib.hid hW4
      clear hB4 hz4 ho1 hW4
      go_wp2_with (first | (at_builtin; refine wpList_app rfl (.tmp 27) (.tmp 35) 64 rfl 57 iW _ 3 32 Tryz.underlying64 HI.out.1 HI.out.2.1 HI.out.2.2.1 HI.out.2.2.2 rfl (by decide) w.heap.size _ _ _ rfl HOW.out ⟨wr.heap.size, 0, none⟩ 1 [Value.int .i64 a, Value.int .i8 k, Value.string p] rfl rfl HNW.out HO1.out (by have := HLN.out; unfold maxLen; omega) (by have := HLN.out; omega) HBS.out ?_; intro g7 cap7 w7 hown7 hA7; have H7 := Lib.hid (And.intro hown7 hA7); clear hown7 hA7 o0 o1 o2 cr))
      have h7 := H7.out
      rw [HW4.out] at h7

      have HN8 := Lib.hid (((HL.out.below HB4.out).putT (x := ⟨a, k, p⟩) h7.1 (Grew.of_app h7.2)).rowEq (xs' := (L.take (i + 1).toNat).filter (fun x => x.f0 == m)) (ys' := (L.take (i + 1).toNat).filter (fun x => !(x.f0 == m))) (by rw [HTK.out, List.filter_append]; simp [HQ.out]) (by rw [HTK.out, List.filter_append]; simp [HQ.out]))
      clear h7
      go_wp2
      go_roundw
      case measure => simp [intOf]; omega
      case rel => exact ⟨i + 1, rfl, by omega, by omega, HN8⟩
    | false =>
      obtain ⟨W4, hW4⟩ : ∃ V, wr.alloc (.cells #[Value.int .i64 a, Value.int .i8 k, Value.string p] 57) = V := ⟨_, rfl⟩
      have hB4 : Below wr.heap.size wr W4 := by rw [← hW4]; exact below_alloc (Below.refl _ _) _
      have hz4 := World.alloc_heap_new wr (.cells #[Value.int .i64 a, Value.int .i8 k, Value.string p] 57)
      rw [hW4] at hz4
      have HR4 := Lib.hid (Bag.own_below (HL.out.rowL) hB4)
      have HOW := Lib.hid HR4.out
      have HNW := Lib.hid (World.news_of_block hz4)
      have HBS : Hid (w.heap.size ≤ W4.heap.size) := Lib.hid (Nat.le_trans (HL.out.bel.size) hB4.size)
      have HB4 := Lib.hid hB4
      have ho1 : ∀ u ∈ [Value.int .i64 a, Value.int .i8 k, Value.string p], u.oneCell' = true := by simp [Value.oneCell']
      have HO1 := Lib.hid ho1
      have HLN := Lib.hid (hn64.2)
      rw [← hW4] at HOW HNW HBS
      have HW4 := Lib.hid hW4
      clear hB4 hz4 ho1 hW4
      go_wp2_with (first | (at_builtin; refine wpList_app rfl (.tmp 37) (.tmp 45) 64 rfl 57 iW _ 3 32 Tryz.underlying64 HI.out.1 HI.out.2.1 HI.out.2.2.1 HI.out.2.2.2 rfl (by decide) w.heap.size _ _ _ rfl HOW.out ⟨wr.heap.size, 0, none⟩ 1 [Value.int .i64 a, Value.int .i8 k, Value.string p] rfl rfl HNW.out HO1.out (by have := HLN.out; unfold maxLen; omega) (by have := HLN.out; omega) HBS.out ?_; intro g7 cap7 w7 hown7 hA7; have H7 := Lib.hid (And.intro hown7 hA7); clear hown7 hA7 o0 o1 o2 cr))
      have h7 := H7.out
      rw [HW4.out] at h7

      have HN8 := Lib.hid (((HL.out.below HB4.out).putL (y := ⟨a, k, p⟩) h7.1 (Grew.of_app h7.2)).rowEq (xs' := (L.take (i + 1).toNat).filter (fun x => x.f0 == m)) (ys' := (L.take (i + 1).toNat).filter (fun x => !(x.f0 == m))) (by rw [HTK.out, List.filter_append]; simp [HQ.out]) (by rw [HTK.out, List.filter_append]; simp [HQ.out]))
      clear h7
      go_wp2
      go_roundw
      case measure => simp [intOf]; omega
      case rel => exact ⟨i + 1, rfl, by omega, by omega, HN8⟩
  · have q2 : decide (i < (n : Int)) = false := decide_eq_false c2
    have hin : i.toNat = L.length := by rw [HN.out]; omega
    have HE := HL.out
    rw [hin, List.take_length] at HE
    obtain ⟨A2, cap2, hv2, hc2⟩ := Bag.Row.slice HE.rowL
    obtain ⟨n2, hn2⟩ : ∃ z, (L.filter (fun x => !(x.f0 == m))).length = z := ⟨_, rfl⟩
    rw [hn2] at hv2
    have hbr := blkK HRF.out.blk HE.bel
    have hfz := frozen_rowK (j := 0) hbr
    have HBR := Lib.hid hbr
    have HE := Lib.hid HE
    clear hin HL hn2 hbr hc2
    subst hv2
    go_wp2
    go_ret
    have ho : Only (fun k => k = r) w (wr.setCell ⟨r, 0, none⟩ (.slice A2 n2 cap2)) := (Only.of_below (S := fun k => k = r) HE.out.bel).setCell (p := ⟨r, 0, none⟩) (.inl rfl) _
    have hset : Only (fun k => k = r) wr (wr.setCell ⟨r, 0, none⟩ (.slice A2 n2 cap2)) := (Only.refl (fun k => k = r) wr).setCell (p := ⟨r, 0, none⟩) (.inl rfl) _
    have hb : (wr.setCell ⟨r, 0, none⟩ (.slice A2 n2 cap2)).heap[r]? = some (.cells #[.slice A2 n2 cap2] 82 (0, 0)) := heap_setCell_same wr r 0 _ _ _ HBR.out
    have kT := HE.out.rowT.onlyN hset (fun k hk e => by have := (HE.out.rowT.lt hk).1; omega)
    have kL := HE.out.rowL.onlyN hset (fun k hk e => by have := (HE.out.rowL.lt hk).1; omega)
    exact ⟨_, rfl, kT, ho, _, HRF.out.turn ho hb (own_lower kL HRF.out.hi) (Nat.le_trans (List.length_filter_le _ _) HRF.out.few), fun k hk => (HE.out.rowL.lt hk).1⟩
end Go.Proofs.YtkhnjckkjdldbaaGreatDoor.Q
