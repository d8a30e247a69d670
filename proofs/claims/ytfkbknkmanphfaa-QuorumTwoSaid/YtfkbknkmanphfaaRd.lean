import Derived.Test.YtfkbknkmanphfaaRc
namespace Go.Proofs.Ytfkbknkmanphfaa.Q
open Go.RowKit Go.Proofs.YtfkbknkmanphfaaW.PrintWords Go.Sort
set_option linter.unusedVariables false
set_option linter.unusedSimpArgs false

/-! THE REFERENCE'S ACKS: its block a, the row of bools hb, the row of zxids ub -/
variable {M : Nat}
structure RAcks (M : Nat) (w : World) (a r hb ub : Nat) (ws gs : List Int) (f : Nat → Ak) : Prop where
  sys : RSys M w r ws gs
  mem : ∃ hc uc ch cu, w.heap[a]? = some (.cells #[.pointer (some ⟨r, 0, none⟩), .slice (some ⟨hb, 0, none⟩) ws.length hc, .slice (some ⟨ub, 0, none⟩) ws.length uc] 78 (0, 0)) ∧
    w.heap[hb]? = some (.cells ch 4 (0, 0)) ∧ w.heap[ub]? = some (.cells cu 44 (0, 0)) ∧
    (∀ i, i < ws.length → ch[i]? = some (.bool (f i).s) ∧ cu[i * 2]? = some (.int .u32 (f i).e) ∧ cu[i * 2 + 1]? = some (.int .u32 (f i).n))
  ord : r < a ∧ r < hb ∧ r < ub
theorem RAcks.keep {w w' : World} {a r hb ub : Nat} {ws gs : List Int} {f : Nat → Ak} (h : RAcks M w a r hb ub ws gs f) (hr : ∀ k, M ≤ k → k ≤ r → w'.heap[k]? = w.heap[k]?) (h1 : w'.heap[a]? = w.heap[a]?) (h2 : w'.heap[hb]? = w.heap[hb]?) (h3 : w'.heap[ub]? = w.heap[ub]?) : RAcks M w' a r hb ub ws gs f := by
  obtain ⟨hs, ⟨hc, uc, ch, cu, b1, b2, b3, hv⟩, ho⟩ := h
  exact ⟨hs.keep hr, ⟨hc, uc, ch, cu, h1.trans b1, h2.trans b2, h3.trans b3, hv⟩, ho⟩
theorem RAcks.lt {w : World} {a r hb ub : Nat} {ws gs : List Int} {f : Nat → Ak} (h : RAcks M w a r hb ub ws gs f) : r < w.heap.size ∧ a < w.heap.size ∧ hb < w.heap.size ∧ ub < w.heap.size := by
  obtain ⟨hs, ⟨hc, uc, ch, cu, b1, b2, b3, hv⟩, ho⟩ := h
  exact ⟨hs.lt, (Array.getElem?_eq_some_iff.1 b1).1, (Array.getElem?_eq_some_iff.1 b2).1, (Array.getElem?_eq_some_iff.1 b3).1⟩
theorem RAcks.below {w w' : World} {a r hb ub : Nat} {ws gs : List Int} {f : Nat → Ak} (h : RAcks M w a r hb ub ws gs f) (hB : Below w.heap.size w w') : RAcks M w' a r hb ub ws gs f := by
  obtain ⟨l0, l1, l2, l3⟩ := h.lt
  exact h.keep (fun k _ hk => hB.block k (by omega)) (hB.block _ l1) (hB.block _ l2) (hB.block _ l3)
theorem RAcks.only {S : Nat → Prop} {w w' : World} {a r hb ub : Nat} {ws gs : List Int} {f : Nat → Ak} (h : RAcks M w a r hb ub ws gs f) (ho : Only S w w') (hr : ∀ k, M ≤ k → k ≤ r → ¬ S k) (h1 : ¬ S a) (h2 : ¬ S hb) (h3 : ¬ S ub) : RAcks M w' a r hb ub ws gs f := by
  obtain ⟨l0, l1, l2, l3⟩ := h.lt
  exact h.keep (fun k hm hk => ho.block k (by omega) (hr k hm hk)) (ho.block _ l1 h1) (ho.block _ l2 h2) (ho.block _ l3 h3)
theorem blocks_ne {w : World} {i j : Nat} {c d : Array Value} {s t : TypeId} {x y : Nat × Nat} (h : w.heap[i]? = some (.cells c s x)) (k : w.heap[j]? = some (.cells d t y)) (hst : s ≠ t) : i ≠ j := by
  rintro rfl
  rw [h] at k
  simp only [Option.some.injEq, Obj.cells.injEq] at k
  exact hst k.2.1
theorem own_ne {w : World} {b1 b2 : Nat} {e1 e2 : TypeId} {s1 s2 : Nat} {v1 v2 : Value} {n1 n2 : Nat} {x1 x2 : List Value} (h1 : w.ownsRow b1 e1 s1 v1 n1 x1) (h2 : w.ownsRow b2 e2 s2 v2 n2 x2) (he : e1 ≠ e2) : v1.ownBlock = none ∨ v1.ownBlock ≠ v2.ownBlock := by
  obtain ⟨_, ⟨rfl, _⟩ | ⟨g1, c1, r1, rfl, _, k1, _⟩⟩ := h1
  · exact .inl rfl
  · obtain ⟨_, ⟨rfl, _⟩ | ⟨g2, c2, r2, rfl, _, k2, _⟩⟩ := h2
    · exact .inr (by simp [Value.ownBlock])
    · exact .inr (by simpa [Value.ownBlock] using blocks_ne k1 k2 he)
theorem new_cells2 (w : World) (u v : Value) (t : TypeId) : ∀ j x, [u, v][j]? = some x → (w.alloc (.cells #[u, v] t)).cell? ((⟨w.heap.size, 0, none⟩ : Addr).add j) = some x := fun j x hx => by
  rw [add_plain, cell_of_row _ _ j _ _ _ (heap_alloc_new w _)]
  simpa using hx
def rowH (k : Nat) : List Value := List.replicate k (.bool false)
def rowU (k : Nat) : List Value := List.replicate (k * 2) (.int .u32 0)
theorem rowH_succ (k : Nat) : rowH k ++ [.bool false] = rowH (k + 1) := by unfold rowH; rw [List.replicate_succ']
theorem rowU_succ (k : Nat) : rowU k ++ [.int .u32 0, .int .u32 0] = rowU (k + 1) := by
  unfold rowU
  rw [show (k + 1) * 2 = k * 2 + 1 + 1 by omega, List.replicate_succ', List.replicate_succ']
  simp
theorem infoB : (Try.prog.info? 4).map (fun i => (i.zero, i.size, i.bytes)) = some (some (.bool false), 1, 1) := by kernel_rfl
theorem infoZ : (Try.prog.info? 44).map (fun i => (i.zero, i.size, i.bytes)) = some (some (.agg #[.int .u32 0, .int .u32 0]), 2, 8) := by kernel_rfl
theorem grown_block {w w' : World} {row : Option Nat} (hg : w.grownBy w' row) {k : Nat} {o : Obj} (h : w.heap[k]? = some o) (hn : some k ≠ row) : w'.heap[k]? = some o :=
  (hg.block k (Array.getElem?_eq_some_iff.1 h).1 hn).trans h
theorem own_block_ne {w : World} {b : Nat} {e : TypeId} {s : Nat} {v : Value} {n : Nat} {x : List Value} (h : w.ownsRow b e s v n x) {k : Nat} (hk : k < b) : some k ≠ v.ownBlock := fun hh => by
  have := (h.lt k hh.symm).1
  omega
theorem box3 {w : World} {b : Nat} {u v x : Value} {t : TypeId} (h : w.heap[b]? = some (.cells #[u, v, x] t (0, 0))) : w.cell? ⟨b, 0, none⟩ = some u ∧ w.cell? ⟨b, 1, none⟩ = some v ∧ w.cell? ⟨b, 2, none⟩ = some x ∧ ∀ j, w.frozen? ⟨b, j, none⟩ = false :=
  ⟨(cell_of_row w b 0 _ _ _ h).trans rfl, (cell_of_row w b 1 _ _ _ h).trans rfl, (cell_of_row w b 2 _ _ _ h).trans rfl, fun j => frozen_of_row w b j _ _ h⟩

set_option maxHeartbeats 4000000 in
theorem newAcksR (r : Nat) (ws gs : List Int) (w : World) (h : RSys M w r ws gs) :
    Calls Try.prog 13 #[.pointer (some ⟨r, 0, none⟩)] w fun e w' => ∃ a hb ub, e = .returned (.pointer (some ⟨a, 0, none⟩)) ∧ w.heap.size ≤ a ∧ w.heap.size ≤ hb ∧ w.heap.size ≤ ub ∧ RAcks M w' a r hb ub ws gs (fun _ => ⟨false, 0, 0⟩) ∧ Below w.heap.size w w' := by
  have HS := Lib.hid h
  have h7 := h.v.le7
  have hp := h.v.pos
  have hrw := h.lt
  obtain ⟨i4, hi, hz0, hz1, hz2⟩ := info_parts infoB
  have HI := Lib.hid (And.intro hi (And.intro hz0 (And.intro hz1 hz2)))
  obtain ⟨i5, hi5, hz05, hz15, hz25⟩ := info_parts infoZ
  have HI5 := Lib.hid (And.intro hi5 (And.intro hz05 (And.intro hz15 hz25)))
  clear h hi hz0 hz1 hz2 hi5 hz05 hz15 hz25
  have HBX := Lib.hid (heap_alloc_new w (.cells #[.pointer (some ⟨r, 0, none⟩), .slice none 0 0, .slice none 0 0] 78))
  have HBB := Lib.hid (below_alloc (Below.refl w.heap.size w) (.cells #[.pointer (some ⟨r, 0, none⟩), .slice none 0 0, .slice none 0 0] 78))
  have HBL : Hid (w.heap.size < (w.alloc (.cells #[.pointer (some ⟨r, 0, none⟩), .slice none 0 0, .slice none 0 0] 78)).heap.size) := Lib.hid (by simp)
  go_enter Try.func13, Try.ntmps13
  go_wp2
  go_loopw [4] (fun t wr => ∃ k : Nat, k ≤ ws.length ∧ t = .int .i64 k ∧ ∃ vh vu, Hid (wr.heap[w.heap.size]? = some (.cells #[.pointer (some ⟨r, 0, none⟩), vh, vu] 78 (0, 0))) ∧ Hid (wr.ownsRow (w.heap.size + 1) 4 1 vh k (rowH k)) ∧ Hid (wr.ownsRow (w.heap.size + 1) 44 2 vu k (rowU k)) ∧ Hid (Below w.heap.size w wr) ∧ Hid (w.heap.size < wr.heap.size)) (fun t _ => ws.length - (intOf t).toNat)
  case atStart => exact ⟨0, by omega, rfl, _, _, HBX, Lib.hid (World.ownsRow_nil _ _ _ _), Lib.hid (World.ownsRow_nil _ _ _ _), HBB, HBL⟩
  case round =>
    clear HBX HBB HBL
    obtain ⟨k, hk, rfl, vh, vu, HX, HH, HU, HB, HL⟩ := hrel
    go_wp2_with fail
    refine (sizeR r ws gs wr (HS.out.below HB.out)).mono ?_
    rintro e w' ⟨rfl, rfl⟩
    by_cases hlt : k < ws.length
    · obtain ⟨x0, x1, x2, fz⟩ := box3 HX.out
      have f1 := fz 1
      have f2 := fz 2
      clear fz
      go_wp2_with (at_builtin; refine wpList_append_own _ rfl (.tmp 18) (.tmp 19) 75 rfl (w.heap.size + 1) 4 i4 (.bool false) 1 1 Try.underlying75 HI.out.1 HI.out.2.1 HI.out.2.2.1 HI.out.2.2.2 rfl (by decide) vh k _ rfl (HH.out.alloc _) ⟨wr.heap.size, 0, none⟩ 1 1 [.bool false] rfl rfl (new_cell _ _ _) (by simp [Value.oneCell']) (by unfold maxLen; omega) (by omega) (by have := HL.out; simp; omega) ?_)
      intro vh' w1 ho hg _
      rw [rowH_succ] at ho
      obtain ⟨gh, hc, rfl, -⟩ := ho.form (by omega)
      have hX1 := grown_block hg ((heap_alloc_old wr (.cells #[.bool false] 4) (Array.getElem?_eq_some_iff.1 HX.out).1).trans HX.out) (own_block_ne (HH.out.alloc (.cells #[.bool false] 4)) (by omega))
      have HU1 := Lib.hid ((HU.out.alloc (.cells #[.bool false] 4)).kept hg (own_ne (HU.out.alloc _) (HH.out.alloc (.cells #[.bool false] 4)) (by decide)))
      have HB1 := Lib.hid (below_of_grown (HB.out.alloc HB.out.size (.cells #[.bool false] 4)) hg (fun j hj => by have := (HH.out.lt j hj).1; omega))
      have HL1 : Hid (w.heap.size < w1.heap.size) := Lib.hid (by have := hg.size; have := HL.out; simp at *; omega)
      have HX1 := Lib.hid hX1
      have HH1 := Lib.hid ho
      clear ho hg hX1 HX HH HU HB HL x0 x1 x2 f1 f2
      obtain ⟨x0, x1, x2, fz⟩ := box3 HX1.out
      have f1 := fz 1
      have f2 := fz 2
      clear fz
      have HX2 : Hid ((w1.setCell ⟨w.heap.size, 1, none⟩ (.slice (some ⟨gh, 0, none⟩) (k + 1) hc)).heap[w.heap.size]? = some (.cells #[.pointer (some ⟨r, 0, none⟩), .slice (some ⟨gh, 0, none⟩) (k + 1) hc, vu] 78 (0, 0))) := Lib.hid (by rw [heap_setCell_same _ _ _ _ _ _ HX1.out]; simp)
      have HH2 := Lib.hid (ownsRow_setCell_below HH1.out (a := ⟨w.heap.size, 1, none⟩) (by simp) (.slice (some ⟨gh, 0, none⟩) (k + 1) hc))
      have HU2 := Lib.hid (ownsRow_setCell_below HU1.out (a := ⟨w.heap.size, 1, none⟩) (by simp) (.slice (some ⟨gh, 0, none⟩) (k + 1) hc))
      have HB2 := Lib.hid (HB1.out.setCell (p := ⟨w.heap.size, 1, none⟩) (Nat.le_refl _) (.slice (some ⟨gh, 0, none⟩) (k + 1) hc))
      have HL2 : Hid (w.heap.size < (w1.setCell ⟨w.heap.size, 1, none⟩ (.slice (some ⟨gh, 0, none⟩) (k + 1) hc)).heap.size) := Lib.hid (by simp; exact HL1.out)
      obtain ⟨W2, hW2⟩ : ∃ W2, w1.setCell ⟨w.heap.size, 1, none⟩ (.slice (some ⟨gh, 0, none⟩) (k + 1) hc) = W2 := ⟨_, rfl⟩
      rw [hW2] at HX2 HH2 HU2 HB2 HL2
      have HW2 := Lib.hid hW2
      have HSZ2 : Hid (W2.heap.size = w1.heap.size) := Lib.hid (by rw [← hW2]; simp)
      clear hW2 HX1 HH1 HU1 HB1 HL1
      obtain ⟨z0, z1, z2, gz⟩ := box3 HX2.out
      have g2 := gz 2
      rw [← HW2.out] at z0 z1 z2 g2
      clear gz
      go_wp2_with (rw [HW2.out]; at_builtin; refine wpList_append_own _ rfl (.tmp 27) (.tmp 29) 76 rfl (w.heap.size + 1) 44 i5 (.agg #[.int .u32 0, .int .u32 0]) 2 8 Try.underlying76 HI5.out.1 HI5.out.2.1 HI5.out.2.2.1 HI5.out.2.2.2 rfl (by decide) vu k _ rfl (HU2.out.alloc _) ⟨w1.heap.size, 0, none⟩ 1 1 [.int .u32 0, .int .u32 0] rfl rfl (fun j x hx => by have hq := new_cells2 W2 (.int .u32 0) (.int .u32 0) 44; rw [HSZ2.out] at hq; exact hq j x hx) (by simp [Value.oneCell']) (by unfold maxLen; omega) (by omega) (by have := HL2.out; simp; omega) ?_)
      intro vu' w3 ho hg _
      rw [rowU_succ] at ho
      obtain ⟨gu, uc, rfl, -⟩ := ho.form (by omega)
      have hX3 := grown_block hg ((heap_alloc_old W2 (.cells #[.int .u32 0, .int .u32 0] 44) (Array.getElem?_eq_some_iff.1 HX2.out).1).trans HX2.out) (own_block_ne (HU2.out.alloc (.cells #[.int .u32 0, .int .u32 0] 44)) (by omega))
      have HH3 := Lib.hid ((HH2.out.alloc (.cells #[.int .u32 0, .int .u32 0] 44)).kept hg (own_ne (HH2.out.alloc _) (HU2.out.alloc (.cells #[.int .u32 0, .int .u32 0] 44)) (by decide)))
      have HB3 := Lib.hid (below_of_grown (HB2.out.alloc HB2.out.size (.cells #[.int .u32 0, .int .u32 0] 44)) hg (fun j hj => by have := (HU2.out.lt j hj).1; omega))
      have HL3 : Hid (w.heap.size < w3.heap.size) := Lib.hid (by have := hg.size; have := HL2.out; simp at *; omega)
      have HX3 := Lib.hid hX3
      have HU3 := Lib.hid ho
      clear ho hg hX3 HX2 HH2 HU2 HB2 HL2 x0 x1 x2 f1 f2 z0 z1 z2 g2 HW2
      obtain ⟨x0, x1, x2, fz⟩ := box3 HX3.out
      have f2 := fz 2
      clear fz
      have HX4 : Hid ((w3.setCell ⟨w.heap.size, 2, none⟩ (.slice (some ⟨gu, 0, none⟩) (k + 1) uc)).heap[w.heap.size]? = some (.cells #[.pointer (some ⟨r, 0, none⟩), .slice (some ⟨gh, 0, none⟩) (k + 1) hc, .slice (some ⟨gu, 0, none⟩) (k + 1) uc] 78 (0, 0))) := Lib.hid (by rw [heap_setCell_same _ _ _ _ _ _ HX3.out]; simp)
      have HH4 := Lib.hid (ownsRow_setCell_below HH3.out (a := ⟨w.heap.size, 2, none⟩) (by simp) (.slice (some ⟨gu, 0, none⟩) (k + 1) uc))
      have HU4 := Lib.hid (ownsRow_setCell_below HU3.out (a := ⟨w.heap.size, 2, none⟩) (by simp) (.slice (some ⟨gu, 0, none⟩) (k + 1) uc))
      have HB4 := Lib.hid (HB3.out.setCell (p := ⟨w.heap.size, 2, none⟩) (Nat.le_refl _) (.slice (some ⟨gu, 0, none⟩) (k + 1) uc))
      have HL4 : Hid (w.heap.size < (w3.setCell ⟨w.heap.size, 2, none⟩ (.slice (some ⟨gu, 0, none⟩) (k + 1) uc)).heap.size) := Lib.hid (by simp; exact HL3.out)
      clear HX3 HH3 HU3 HB3 HL3
      go_wp2
      exact ⟨⟨k + 1, by omega, by go_num, _, _, HX4, HH4, HU4, HB4, HL4⟩, by simp [intOf]; omega⟩
    · obtain rfl : k = ws.length := by omega
      go_wp2
      go_ret
      have hH := HH.out
      have hU := HU.out
      obtain ⟨hl1, ⟨_, hz⟩ | ⟨hb, hc, ch, rfl, hb1, hb2, hb3, _, hb4, hb5⟩⟩ := hH
      · omega
      obtain ⟨hl2, ⟨_, hz⟩ | ⟨ub, uc, cu, rfl, ub1, ub2, ub3, _, ub4, ub5⟩⟩ := hU
      · omega
      refine ⟨_, hb, ub, rfl, Nat.le_refl _, by omega, by omega, ⟨HS.out.below HB.out, ⟨hc, uc, ch, cu, HX.out, hb2, ub2, fun i hi => ?_⟩, by omega⟩, HB.out⟩
      have a1 : (rowH ws.length)[i]? = some (.bool false) := by simp [rowH, hi]
      have a2 : (rowU ws.length)[i * 2]? = some (.int .u32 0) := by unfold rowU; rw [List.getElem?_replicate, if_pos (by omega)]
      have a3 : (rowU ws.length)[i * 2 + 1]? = some (.int .u32 0) := by unfold rowU; rw [List.getElem?_replicate, if_pos (by omega)]
      rw [← hb5, List.getElem?_take, if_pos (by omega)] at a1
      rw [← ub5, List.getElem?_take, if_pos (by omega)] at a2 a3
      simpa using And.intro a1 (And.intro a2 a3)
end Go.Proofs.Ytfkbknkmanphfaa.Q
