import Derived.Test.YtkhnjckkjdldbaaGreatDoorK4
import Derived.Test.YtkhnjckkjdldbaaGreatDoorBag
import Derived.Test.YtkhnjckkjdldbaaGreatDoorShelf
import Derived.Shelf.SlSortCmp.QuietGrown
namespace Go.Proofs.YtkhnjckkjdldbaaGreatDoor.Q
open Go.RowKit Go.Proofs.YtkhnjckkjdldbaaGreatDoorW.PrintWords Go.Deep Go.Maps Go.WideShapes Go.Sort
open Go.Proofs.YtkhnjckkjdldbaaGreatDoor.Pr (S57 S59 z57 k57 k59)
set_option linter.unusedVariables false
set_option linter.unusedSimpArgs false
attribute [local go_sem] Oper.semAt_some
/-! ALL: THE SORT -/
theorem atB_range {P : WN} {came : Int} (h : ∀ p ∈ P, 0 ≤ p.2 ∧ p.2 < came) (h0 : 0 ≤ came) (x : S57) : 0 ≤ atB P x ∧ atB P x ≤ came := by
  unfold atB
  split
  · rename_i he
    have := h _ he.choose_spec
    simp only at this
    omega
  · omega
theorem below_grownN (w : World) (n : Nat) (os : Array Obj) : Below w.heap.size w (grow (w.drewN n) os) := below_regrown w (w.drawn + n) os
theorem cmp_calls {c b bx : Nat} {came : Int} {P : WN} {V : World} (h : Brd c b came P V) (hbx : V.heap[bx]? = some (.cells #[.pointer (some ⟨c, 0, none⟩)] 25 (0, 0))) (hc : came < 4611686018427387904) {x y : S57} (hx : wfW x) (hy : wfW y) :
    Calls Tryz.prog 28 #[.agg (encW x).toArray, .agg (encW y).toArray, .pointer (some ⟨bx, 0, none⟩)] V fun e w' => e = .returned (.int .i64 (atB P x - atB P y)) ∧ ∃ q os', w' = grow (V.drewN q) os' := by
  obtain ⟨a1, k1, p1⟩ := x
  obtain ⟨a2, k2, p2⟩ := y
  obtain ⟨W9, hW9⟩ : ∃ U, (V.alloc (.cells #[.int .i64 a1, .int .i8 k1, .string p1] 57)).alloc (.cells #[.int .i64 a2, .int .i8 k2, .string p2] 57) = U := ⟨_, rfl⟩
  have hB : Below V.heap.size V W9 := by rw [← hW9]; exact below_alloc (below_alloc (Below.refl _ _) _) _
  have h1 : W9.heap[V.heap.size]? = some (.cells #[.int .i64 a1, .int .i8 k1, .string p1] 57 (0, 0)) := by
    rw [← hW9, heap_alloc_old _ _ (by simp)]; exact World.alloc_heap_new V _
  have h2 : W9.heap[V.heap.size + 1]? = some (.cells #[.int .i64 a2, .int .i8 k2, .string p2] 57 (0, 0)) := by
    have := World.alloc_heap_new (V.alloc (.cells #[.int .i64 a1, .int .i8 k1, .string p1] 57)) (.cells #[.int .i64 a2, .int .i8 k2, .string p2] 57)
    rw [World.size_alloc] at this
    rw [← hW9]; exact this
  have H9 := h.below hB
  have HE : Hid (∀ n os, ∃ q os', grow (W9.drewN n) os = grow (V.drewN q) os') := Lib.hid fun n os => ⟨n, _, by rw [← hW9, alloc_eq_grow, alloc_eq_grow, grow_grow]; show grow (grow (V.drewN n) _) os = _; rw [grow_grow]⟩
  have kx : ∀ n os, (grow (W9.drewN n) os).cell? ⟨bx, 0, none⟩ = some (.pointer (some ⟨c, 0, none⟩)) := fun n os => cell_rowK (blkK (blkK hbx hB) (below_grownN W9 n os)) rfl
  have km : ∀ n os, (grow (W9.drewN n) os).cell? ⟨c, 1, none⟩ = some (.map (some b)) := fun n os => cell_rowK (k := 1) (H9.below (below_grownN W9 n os)).cells rfl
  have x0 : ∀ n os, (grow (W9.drewN n) os).cell? ⟨V.heap.size, 0, none⟩ = some (.int .i64 a1) := fun n os => cell_rowK (k := 0) (blkK h1 (below_grownN W9 n os)) rfl
  have x1 : ∀ n os, (grow (W9.drewN n) os).cell? ⟨V.heap.size, 1, none⟩ = some (.int .i8 k1) := fun n os => cell_rowK (k := 1) (blkK h1 (below_grownN W9 n os)) rfl
  have x2 : ∀ n os, (grow (W9.drewN n) os).cell? ⟨V.heap.size, 2, none⟩ = some (.string p1) := fun n os => cell_rowK (k := 2) (blkK h1 (below_grownN W9 n os)) rfl
  have y0 : ∀ n os, (grow (W9.drewN n) os).cell? ⟨V.heap.size + 1, 0, none⟩ = some (.int .i64 a2) := fun n os => cell_rowK (k := 0) (blkK h2 (below_grownN W9 n os)) rfl
  have y1 : ∀ n os, (grow (W9.drewN n) os).cell? ⟨V.heap.size + 1, 1, none⟩ = some (.int .i8 k2) := fun n os => cell_rowK (k := 1) (blkK h2 (below_grownN W9 n os)) rfl
  have y2 : ∀ n os, (grow (W9.drewN n) os).cell? ⟨V.heap.size + 1, 2, none⟩ = some (.string p2) := fun n os => cell_rowK (k := 2) (blkK h2 (below_grownN W9 n os)) rfl
  have l1 : ∀ n os, (Instr.lookup 78 (.map (some b)) (.agg (encW ⟨a1, k1, p1⟩).toArray) false).run Tryz.prog (grow (W9.drewN n) os) = .ok (.int .i64 (atB P ⟨a1, k1, p1⟩)) (grow (W9.drewN n) os) := fun n os => (brd_look (H9.below (below_grownN W9 n os)) hx).2
  have l2 : ∀ n os, (Instr.lookup 78 (.map (some b)) (.agg (encW ⟨a2, k2, p2⟩).toArray) false).run Tryz.prog (grow (W9.drewN n) os) = .ok (.int .i64 (atB P ⟨a2, k2, p2⟩)) (grow (W9.drewN n) os) := fun n os => (brd_look (H9.below (below_grownN W9 n os)) hy).2
  have r1 := atB_range h.low h.c0 ⟨a1, k1, p1⟩
  have r2 := atB_range h.low h.c0 ⟨a2, k2, p2⟩
  obtain ⟨n1, hn1⟩ : ∃ v, atB P ⟨a1, k1, p1⟩ = v := ⟨_, rfl⟩
  obtain ⟨n2, hn2⟩ : ∃ v, atB P ⟨a2, k2, p2⟩ = v := ⟨_, rfl⟩
  rw [hn1] at l1 r1 ⊢
  rw [hn2] at l2 r2 ⊢
  have hw : wrap64 (n1 - n2) = n1 - n2 := w64 (by omega) (by omega)
  have HWR := Lib.hid hw
  have HW := Lib.hid hW9
  clear hn1 hn2 h hbx hB h1 h2 H9 hW9 hw hx hy r1 r2
  go_enter Tryz.func28, Tryz.ntmps28
  go_wp2_with fail
  rw [HW.out]
  refine wp_region_quiet_grown (by kernel_rfl) (by kernel_rfl) ?_
  repeat (go_big_quiet_step (fail))
  refine wpQuiet_nil ?_
  intro _ hw'
  obtain ⟨⟨nq, osq⟩, hw''⟩ := hw'
  subst hw''
  clear kx km x0 x1 x2 y0 y1 y2 l1 l2
  go_wp2
  go_ret
  exact ⟨by rw [HWR.out]; rfl, HE.out _ _⟩
/-- watches that can be keys -/
abbrev WW := {x : S57 // wfW x}
instance : Inhabited WW := ⟨⟨⟨0, 0, ⟨#[]⟩⟩, by refine ⟨by decide, by decide, ?_⟩; show 0 ≤ maxLen; unfold maxLen; omega⟩⟩
abbrev encX (x : WW) : List Value := encW x.1
theorem ltOf_at (P : WN) (x y : WW) : ltOf (fun x y : WW => atB P x.1 - atB P y.1) x y = decide (atB P x.1 < atB P y.1) := by
  show decide (atB P x.1 - atB P y.1 < 0) = _
  rw [Bool.eq_iff_iff, decide_eq_true_iff, decide_eq_true_iff]; omega
theorem swo_at (P : WN) : SWO (ltOf fun x y : WW => atB P x.1 - atB P y.1) where
  irrefl x := by rw [ltOf_at]; simp
  trans x y z h1 h2 := by rw [ltOf_at] at *; simp at *; omega
  ntrans x y z h1 h2 := by rw [ltOf_at] at *; simp at *; omega
theorem isAgg_watch (w : World) : (isAgg 57).run Tryz.prog w = .ok true w := by
  unfold isAgg
  rw [Sem.run_bind, run_underlying Tryz.underlying57 w]
  simp
theorem sizeOf_watch (w : World) : (sizeOf 57).run Tryz.prog w = .ok 3 w := by kernel_rfl
theorem rise_at {P : WN} (hn : P.Pairwise (fun p q => p.1 ≠ q.1)) (hr : P.Pairwise (fun p q => p.2 < q.2)) : (P.map Prod.fst).Pairwise (fun x y => atB P x < atB P y) := by
  rw [List.pairwise_map]
  refine hr.imp_of_mem fun {p q} hp hq h => ?_
  rw [atB_mem (x := p.1) (n := p.2) hn hp, atB_mem (x := q.1) (n := q.2) hn hq]; exact h
theorem sort_calls {c b bx g cap base : Nat} {came : Int} {P : WN} {W : World} (h : Brd c b came P W) (hbx : W.heap[bx]? = some (.cells #[.pointer (some ⟨c, 0, none⟩)] 25 (0, 0))) (hc : came < 4611686018427387904)
    {xs : List S57} (hrow : W.ownsRow base 57 3 (.slice (some ⟨g, 0, none⟩) xs.length cap) xs.length (xs.flatMap encW)) (hp : xs.Perm (P.map Prod.fst)) (hgc : g ≠ c) (hgb : g ≠ b) (hgx : g ≠ bx) :
    Calls Tryz.prog 27 #[.slice (some ⟨g, 0, none⟩) xs.length cap, .func (.func 28) #[] #[.pointer (some ⟨bx, 0, none⟩)]] W fun e w' => e = .returned (.tuple #[]) ∧
      w'.ownsRow base 57 3 (.slice (some ⟨g, 0, none⟩) P.length cap) P.length ((P.map Prod.fst).flatMap encW) ∧ W.grownBy w' (some g) := by
  obtain ⟨D, hm1, hm2⟩ := h.map
  have hwf : ∀ x ∈ xs, wfW x := fun x hx => by
    obtain ⟨p, hp1, rfl⟩ := List.mem_map.1 (hp.subset hx)
    exact hm2.wf p hp1
  have hlen : xs.length = P.length := by rw [hp.length_eq]; simp
  obtain ⟨ds, hds⟩ : ∃ ds : List WW, ds.map Subtype.val = xs := ⟨xs.attach.map fun x => ⟨x.1, hwf x.1 x.2⟩, by rw [List.map_map]; exact List.attach_map_subtype_val xs⟩
  have hdl : ds.length = xs.length := by rw [← hds]; simp
  have hflat : ∀ l : List WW, l.flatMap encX = (l.map Subtype.val).flatMap encW := fun l => by rw [List.flatMap_map]
  rcases hrow.2 with ⟨h0, _⟩ | ⟨g', cap', cur, h1, hbase, hblk, hnc, hcm, hsz, htk⟩
  · cases h0
  simp only [Value.slice.injEq, Option.some.injEq, Addr.mk.injEq, and_true, true_and] at h1
  obtain ⟨rfl, rfl⟩ := h1
  have hgl : g < W.heap.size := (Array.getElem?_eq_some_iff.1 hblk).1
  have hH : HoldsK encX 3 W g 0 ds.toArray := by
    unfold HoldsK
    rw [flatK_eq (enc := encX) (k := 3) (fun _ => rfl), hflat, hds]
    exact holds_of_blockV hblk (by rw [flat_lenK (k := 3) (fun _ => rfl)]; exact htk)
  have hcmp : CmpLays Tryz.prog 28 #[.pointer (some ⟨bx, 0, none⟩)] encX 3 (fun x y : WW => atB P x.1 - atB P y.1) g 0 ds.toArray.size W := fun m os dk hs x y => by
    have hg : W.grownBy (sortWorldK encX 3 W g 0 m dk os) (some g) := grownBy_sortedV _
    have h2 : Brd c b came P (sortWorldK encX 3 W g 0 m dk os) :=
      ⟨(hg.block c (Array.getElem?_eq_some_iff.1 h.cells).1 (fun e => hgc (Option.some.inj e).symm)).trans h.cells, ⟨D, hm1.kept hg (fun e => hgb (Option.some.inj e).symm), hm2⟩, h.rise, h.low, h.c0, h.few⟩
    exact cmp_calls h2 ((hg.block bx (Array.getElem?_eq_some_iff.1 hbx).1 (fun e => hgx (Option.some.inj e).symm)).trans hbx) hc x.2 y.2
  have hcon := AnyQ.slices_SortFunc Tryz.sortW 3 isAgg_watch sizeOf_watch encX (fun _ => rfl) (fun x v hv => by simp [encX] at hv; rcases hv with rfl | rfl | rfl <;> rfl) (fun x y : WW => atB P x.1 - atB P y.1) (swo_at P) 28 #[.pointer (some ⟨bx, 0, none⟩)] g 0 cap ds.toArray W
    (enters_of Tryz.func28 (by kernel_rfl) rfl) hcmp hH hgl (by simp; have := h.few; omega)
  have hsz2 : ds.toArray.size = xs.length := by simpa using hdl
  rw [hsz2] at hcon
  refine Calls.mono hcon ?_
  rintro e w' ⟨rfl, d', n, os, hpm, hso, rfl⟩
  have hd : d'.size = xs.length := by rw [hpm.1]; exact hsz2
  have hpl : d'.toList.Perm ds := by
    have := hpm.2.2
    rw [Array.extract_eq_self_of_le (by omega), Array.extract_eq_self_of_le (by omega)] at this
    exact this
  have hys : d'.toList.map Subtype.val = P.map Prod.fst := by
    refine rising_unique (atB P) ((hpl.map _).trans (by rw [hds]; exact hp)) ?_ (rise_at hm2.nodup h.rise)
    have hnd : (d'.toList.map Subtype.val).Pairwise (fun x y => atB P x ≠ atB P y) := by
      have h3 : (P.map Prod.fst).Pairwise (fun x y => atB P x ≠ atB P y) := (rise_at hm2.nodup h.rise).imp fun h => by omega
      exact (((hpl.map Subtype.val).trans (by rw [hds]; exact hp)).symm.pairwise_iff (fun h => h.symm)).1 h3
    rw [List.pairwise_map] at hnd ⊢
    rw [List.pairwise_iff_getElem] at hnd ⊢
    intro i j hi hj hij
    have h4 := hnd i j hi hj hij
    have h5 := hso i j (by omega) hij (by simp at hj; omega)
    rw [ltOf_at] at h5
    simp at hi hj
    rw [getElem!_pos d' j hj, getElem!_pos d' i hi] at h5
    simp only [Array.getElem_toList] at h4 ⊢
    have h6 := of_decide_eq_false h5
    omega
  refine ⟨rfl, ?_, grownBy_sortedV _⟩
  have hfl : flatK encX 3 d' = ((P.map Prod.fst).flatMap encW).toArray := by
    have := flatK_eq (enc := encX) (k := 3) (fun _ => rfl) d'.toList
    rw [hflat, hys] at this
    simpa using this
  unfold sortWorldK putRowK
  rw [hfl]
  exact ownsRow_sortedV (by rw [flat_lenK (k := 3) (fun _ => rfl)]; simp) hbase hblk (by omega) hcm hsz
end Go.Proofs.YtkhnjckkjdldbaaGreatDoor.Q
