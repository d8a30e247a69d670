import Derived.Test.YtgjgafibipepeaaGreatDoorBag8
import Derived.Great.Walk
import Derived.Test.YtgjgafibipepeaaGreatDoorPrCopy
import Derived.Test.YtgjgafibipepeaaGreatDoorQg
namespace Go.Proofs.YtgjgafibipepeaaGreatDoor.Bag
open Go.RowKit Go.Proofs.YtgjgafibipepeaaGreatDoorW.PrintWords Go.Deep Go.Maps Go.WideShapes Go.Lib
open Go.Proofs.YtgjgafibipepeaaGreatDoor.Pr (S39 S41 k39 k41 z39 z41 info39 info41)
open Go.Proofs.YtgjgafibipepeaaGreatDoor.Q
set_option linter.unusedVariables false
set_option linter.unusedSimpArgs false
attribute [local go_sem] Oper.semAt_some
/-! A BAG OF LISTS OF IDS AND OF ENTRIES: APART (printed by mkapart.py) -/
section
variable {α : Type} {enc : α → List Value} {size base : Nat} {e e' : TypeId}
theorem Row.keptBut {W w' : World} {v : Value} {xs : List α} (h : Row enc size base e W v xs) (hk : KeptBut e' W w') (hne : e ≠ e') : Row enc size base e w' v xs := by
  refine own_move h fun k hb => ?_
  rcases h.shape with ⟨h1, _⟩ | ⟨g, cap, h1, _, _, cs, hc⟩
  · rw [h1] at hb; cases hb
  · rw [h1] at hb; cases hb
    rw [hk.kept _ _ hc (fun cs fr he => by cases he; exact hne rfl), hc]
theorem BagI.keptBut {W w' : World} {its : List (Item α)} (h : BagI enc size base e W its) (hk : KeptBut e' W w') (hne : e ≠ e') : BagI enc size base e w' its :=
  ⟨fun j hj => ⟨(h.ok j hj).rv.keptBut hk hne, (h.ok j hj).rm.keptBut hk hne, (h.ok j hj).tie⟩, h.apart⟩
end
abbrev bagCells (vI vE : Value) : Array Value := #[.slice none 0 0, .slice none 0 0, .slice none 0 0, .slice none 0 0, vI, vE, .slice none 0 0, .slice none 0 0, .slice none 0 0, .slice none 0 0, .slice none 0 0, .slice none 0 0, .slice none 0 0, .slice none 0 0, .slice none 0 0, .slice none 0 0, .slice none 0 0, .slice none 0 0, .slice none 0 0, .slice none 0 0, .slice none 0 0]
structure St1 (w0 : World) (q : Nat) (vI vE : Value) (pI : Nat) (csI : Array Value) (LI : Lists S39) (pE : Nat) (csE : Array Value) (LE : Lists S41) (W : World) : Prop where
  bag : W.heap[q]? = some (.cells (bagCells vI vE) 65 (0, 0))
  outI : W.heap[pI]? = some (.cells csI 23 (0, 0))
  outE : W.heap[pE]? = some (.cells csE 22 (0, 0))
  bagI : BagI_ w0 W (LI.map fun x => start x.1 x.2)
  bagE : BagE w0 W (LE.map fun x => start x.1 x.2)
  below : Below w0.heap.size w0 W
structure St2 (w0 : World) (q : Nat) (vI vE : Value) (pE : Nat) (csE : Array Value) (LE : Lists S41) (W : World) : Prop where
  bag : W.heap[q]? = some (.cells (bagCells vI vE) 65 (0, 0))
  outE : W.heap[pE]? = some (.cells csE 22 (0, 0))
  bagE : BagE w0 W (LE.map fun x => start x.1 x.2)
  below : Below w0.heap.size w0 W
structure St3 (w0 : World) (q : Nat) (vI vE : Value) (W : World) : Prop where
  bag : W.heap[q]? = some (.cells (bagCells vI vE) 65 (0, 0))
  below : Below w0.heap.size w0 W
theorem blk_below {W w' : World} {k : Nat} {o : Obj} (h : W.heap[k]? = some o) (hb : Below W.heap.size W w') : w'.heap[k]? = some o := (hb.block k (Array.getElem?_eq_some_iff.1 h).1).trans h
section
variable {w0 : World} {q : Nat} {vI vE : Value} {pI : Nat} {csI : Array Value} {LI : Lists S39} {pE : Nat} {csE : Array Value} {LE : Lists S41} {W w' : World}
theorem St1.step (h : St1 w0 q vI vE pI csI LI pE csE LE W) (hb : Below W.heap.size W w') : St1 w0 q vI vE pI csI LI pE csE LE w' :=
  ⟨blk_below h.bag hb, blk_below h.outI hb, blk_below h.outE hb, h.bagI.below hb, h.bagE.below hb, below_step h.below hb⟩
theorem St1.next (h : St1 w0 q vI vE pI csI LI pE csE LE W) (hk : KeptBut 39 W w') (hb : Below w0.heap.size w0 w') : St2 w0 q vI vE pE csE LE w' :=
  ⟨hk.kept _ _ h.bag (fun cs fr h => by simp at h), hk.kept _ _ h.outE (fun cs fr h => by simp at h), BagI.keptBut h.bagE hk (by decide), hb⟩
theorem St2.next (h : St2 w0 q vI vE pE csE LE W) (hk : KeptBut 41 W w') (hb : Below w0.heap.size w0 w') : St3 w0 q vI vE w' :=
  ⟨hk.kept _ _ h.bag (fun cs fr h => by simp at h), hb⟩
theorem St3.step (h : St3 w0 q vI vE W) (hb : Below W.heap.size W w') : St3 w0 q vI vE w' := ⟨blk_below h.bag hb, below_step h.below hb⟩
end
set_option maxRecDepth 100000 in
set_option maxHeartbeats 8000000 in
theorem bag_apart (w0 W : World) (q pI cI : Nat) (csI : Array Value) (LI : Lists S39) (pE cE : Nat) (csE : Array Value) (LE : Lists S41)
    (hS : St1 w0 q (.slice (some ⟨pI, 0, none⟩) LI.length cI) (.slice (some ⟨pE, 0, none⟩) LE.length cE) pI csI LI pE csE LE W)
    (hLI : LI.length ≤ 1000) (hLIp : LI.length ≤ cI) (hcsI : ∀ j (hj : j < LI.length), csI[j]? = some LI[j].1) (hsmI : ∀ j (hj : j < LI.length), LI[j].2.length ≤ 4294967296)
    (hLE : LE.length ≤ 1000) (hLEp : LE.length ≤ cE) (hcsE : ∀ j (hj : j < LE.length), csE[j]? = some LE[j].1) (hsmE : ∀ j (hj : j < LE.length), LE[j].2.length ≤ 4294967296) (hE : Env w0) :
    Calls Tryz.prog 23 #[.pointer (some ⟨q, 0, none⟩)] W fun e w' => e = .returned (.bool true) ∧ Below w0.heap.size w0 w' := by
  have HE := Lib.hid hE
  have HI := Lib.hid (And.intro hLI (And.intro hLIp (And.intro hcsI hsmI)))
  have HEE := Lib.hid (And.intro hLE (And.intro hLEp (And.intro hcsE hsmE)))
  obtain ⟨nI, hnI⟩ : ∃ n, LI.length = n := ⟨_, rfl⟩
  obtain ⟨nE, hnE⟩ : ∃ n, LE.length = n := ⟨_, rfl⟩
  rw [hnI, hnE] at hS
  have HNI := Lib.hid hnI
  have HNE := Lib.hid hnE
  have HS0 := Lib.hid hS
  clear hE hLI hLIp hcsI hsmI hLE hLEp hcsE hsmE hS hnI hnE
  go_enter Tryz.func23, Tryz.ntmps23
  have o : W.cell? ⟨q, 0, none⟩ = some (.slice none 0 0) := cell_row HS0.out.bag rfl
  have K := Lib.hid (apartBytes_nil W)
  go_wp2_with fail
  refine K.out.mono ?_
  rintro e w1 ⟨rfl, hB⟩
  have HS1 := Lib.hid (HS0.out.step hB)
  clear o K hB HS0
  have o : w1.cell? ⟨q, 1, none⟩ = some (.slice none 0 0) := cell_row HS1.out.bag rfl
  have K := Lib.hid (apartInts_nil w1)
  go_wp2_with fail
  refine K.out.mono ?_
  rintro e w2 ⟨rfl, hB⟩
  have HS2 := Lib.hid (HS1.out.step hB)
  clear o K hB HS1
  have o : w2.cell? ⟨q, 2, none⟩ = some (.slice none 0 0) := cell_row HS2.out.bag rfl
  have K := Lib.hid (apartTexts_nil w2)
  go_wp2_with fail
  refine K.out.mono ?_
  rintro e w3 ⟨rfl, hB⟩
  have HS3 := Lib.hid (HS2.out.step hB)
  clear o K hB HS2
  have o : w3.cell? ⟨q, 3, none⟩ = some (.slice none 0 0) := cell_row HS3.out.bag rfl
  have K := Lib.hid (apartPieces_nil w3)
  go_wp2_with fail
  refine K.out.mono ?_
  rintro e w4 ⟨rfl, hB⟩
  have HS4 := Lib.hid (HS3.out.step hB)
  clear o K hB HS3
  have o : w4.cell? ⟨q, 4, none⟩ = some (.slice (some ⟨pI, 0, none⟩) nI cI) := cell_row HS4.out.bag rfl
  have K := apartI_calls w0 w4 pI cI LI csI HS4.out.below HI.out.1 HI.out.2.1 HS4.out.outI HI.out.2.2.1 HI.out.2.2.2 HS4.out.bagI HE.out
  rw [HNI.out] at K
  have K := Lib.hid K
  go_wp2_with fail
  refine K.out.mono ?_
  rintro e w5 ⟨rfl, hB, hK⟩
  have HS5 := Lib.hid (HS4.out.next hK hB)
  clear o K hB hK HS4
  have o : w5.cell? ⟨q, 5, none⟩ = some (.slice (some ⟨pE, 0, none⟩) nE cE) := cell_row HS5.out.bag rfl
  have K := apartE_calls w0 w5 pE cE LE csE HS5.out.below HEE.out.1 HEE.out.2.1 HS5.out.outE HEE.out.2.2.1 HEE.out.2.2.2 HS5.out.bagE HE.out
  rw [HNE.out] at K
  have K := Lib.hid K
  go_wp2_with fail
  refine K.out.mono ?_
  rintro e w6 ⟨rfl, hB, hK⟩
  have HS6 := Lib.hid (HS5.out.next hK hB)
  clear o K hB hK HS5
  have o : w6.cell? ⟨q, 6, none⟩ = some (.slice none 0 0) := cell_row HS6.out.bag rfl
  have K := Lib.hid (apartRequests_nil w6)
  go_wp2_with fail
  refine K.out.mono ?_
  rintro e w7 ⟨rfl, hB⟩
  have HS7 := Lib.hid (HS6.out.step hB)
  clear o K hB HS6
  have o : w7.cell? ⟨q, 7, none⟩ = some (.slice none 0 0) := cell_row HS7.out.bag rfl
  have K := Lib.hid (apartTxns_nil w7)
  go_wp2_with fail
  refine K.out.mono ?_
  rintro e w8 ⟨rfl, hB⟩
  have HS8 := Lib.hid (HS7.out.step hB)
  clear o K hB HS7
  have o : w8.cell? ⟨q, 8, none⟩ = some (.slice none 0 0) := cell_row HS8.out.bag rfl
  have K := Lib.hid (apartResults_nil w8)
  go_wp2_with fail
  refine K.out.mono ?_
  rintro e w9 ⟨rfl, hB⟩
  have HS9 := Lib.hid (HS8.out.step hB)
  clear o K hB HS8
  have o : w9.cell? ⟨q, 9, none⟩ = some (.slice none 0 0) := cell_row HS9.out.bag rfl
  have K := Lib.hid (apartNodes_nil w9)
  go_wp2_with fail
  refine K.out.mono ?_
  rintro e w10 ⟨rfl, hB⟩
  have HS10 := Lib.hid (HS9.out.step hB)
  clear o K hB HS9
  have o : w10.cell? ⟨q, 10, none⟩ = some (.slice none 0 0) := cell_row HS10.out.bag rfl
  have K := Lib.hid (apartSessions_nil w10)
  go_wp2_with fail
  refine K.out.mono ?_
  rintro e w11 ⟨rfl, hB⟩
  have HS11 := Lib.hid (HS10.out.step hB)
  clear o K hB HS10
  have o : w11.cell? ⟨q, 11, none⟩ = some (.slice none 0 0) := cell_row HS11.out.bag rfl
  have K := Lib.hid (apartChanges_nil w11)
  go_wp2_with fail
  refine K.out.mono ?_
  rintro e w12 ⟨rfl, hB⟩
  have HS12 := Lib.hid (HS11.out.step hB)
  clear o K hB HS11
  have o : w12.cell? ⟨q, 12, none⟩ = some (.slice none 0 0) := cell_row HS12.out.bag rfl
  have K := Lib.hid (apartFiles_nil w12)
  go_wp2_with fail
  refine K.out.mono ?_
  rintro e w13 ⟨rfl, hB⟩
  have HS13 := Lib.hid (HS12.out.step hB)
  clear o K hB HS12
  have o : w13.cell? ⟨q, 13, none⟩ = some (.slice none 0 0) := cell_row HS13.out.bag rfl
  have K := Lib.hid (apartPackets_nil w13)
  go_wp2_with fail
  refine K.out.mono ?_
  rintro e w14 ⟨rfl, hB⟩
  have HS14 := Lib.hid (HS13.out.step hB)
  clear o K hB HS13
  have o : w14.cell? ⟨q, 14, none⟩ = some (.slice none 0 0) := cell_row HS14.out.bag rfl
  have K := Lib.hid (apartMessages_nil w14)
  go_wp2_with fail
  refine K.out.mono ?_
  rintro e w15 ⟨rfl, hB⟩
  have HS15 := Lib.hid (HS14.out.step hB)
  clear o K hB HS14
  have o : w15.cell? ⟨q, 15, none⟩ = some (.slice none 0 0) := cell_row HS15.out.bag rfl
  have K := Lib.hid (apartWatches_nil w15)
  go_wp2_with fail
  refine K.out.mono ?_
  rintro e w16 ⟨rfl, hB⟩
  have HS16 := Lib.hid (HS15.out.step hB)
  clear o K hB HS15
  have o : w16.cell? ⟨q, 16, none⟩ = some (.slice none 0 0) := cell_row HS16.out.bag rfl
  have K := Lib.hid (apartFired_nil w16)
  go_wp2_with fail
  refine K.out.mono ?_
  rintro e w17 ⟨rfl, hB⟩
  have HS17 := Lib.hid (HS16.out.step hB)
  clear o K hB HS16
  have o : w17.cell? ⟨q, 17, none⟩ = some (.slice none 0 0) := cell_row HS17.out.bag rfl
  have K := Lib.hid (apartFacts_nil w17)
  go_wp2_with fail
  refine K.out.mono ?_
  rintro e w18 ⟨rfl, hB⟩
  have HS18 := Lib.hid (HS17.out.step hB)
  clear o K hB HS17
  have o : w18.cell? ⟨q, 18, none⟩ = some (.slice none 0 0) := cell_row HS18.out.bag rfl
  have K := Lib.hid (apartSends_nil w18)
  go_wp2_with fail
  refine K.out.mono ?_
  rintro e w19 ⟨rfl, hB⟩
  have HS19 := Lib.hid (HS18.out.step hB)
  clear o K hB HS18
  have o : w19.cell? ⟨q, 19, none⟩ = some (.slice none 0 0) := cell_row HS19.out.bag rfl
  have K := Lib.hid (apartEvents_nil w19)
  go_wp2_with fail
  refine K.out.mono ?_
  rintro e w20 ⟨rfl, hB⟩
  have HS20 := Lib.hid (HS19.out.step hB)
  clear o K hB HS19
  have o : w20.cell? ⟨q, 20, none⟩ = some (.slice none 0 0) := cell_row HS20.out.bag rfl
  have K := Lib.hid (apartFactss_nil w20)
  go_wp2_with fail
  refine K.out.mono ?_
  rintro e w21 ⟨rfl, hB⟩
  have HS21 := Lib.hid (HS20.out.step hB)
  clear o K hB HS20
  go_wp2
  go_ret
  exact ⟨rfl, HS21.out.below⟩
end Go.Proofs.YtgjgafibipepeaaGreatDoor.Bag
namespace Go.Proofs.YtgjgafibipepeaaGreatDoor.Bag
open Go.RowKit Go.Proofs.YtgjgafibipepeaaGreatDoorW.PrintWords Go.Deep Go.Maps Go.WideShapes Go.Lib
open Go.Proofs.YtgjgafibipepeaaGreatDoor.Pr (S39 S41 k39 k41 z39 z41 info39 info41)
open Go.Proofs.YtgjgafibipepeaaGreatDoor.Q
set_option linter.unusedVariables false
set_option linter.unusedSimpArgs false
attribute [local go_sem] Oper.semAt_some
/-! A LIST IS ADDED TO THE BAG (printed by mkadd.py) -/
structure StB (w0 : World) (q : Nat) (vI vE : Value) (LI : Lists S39) (LE : Lists S41) (W : World) : Prop where
  bag : W.heap[q]? = some (.cells (bagCells vI vE) 65 (0, 0))
  q0 : w0.heap.size ≤ q
  rowI : Row encS 1 w0.heap.size 23 W vI (LI.map Prod.fst)
  rowE : Row encS 1 w0.heap.size 22 W vE (LE.map Prod.fst)
  bagI : BagI_ w0 W (LI.map fun x => start x.1 x.2)
  bagE : BagE w0 W (LE.map fun x => start x.1 x.2)
  below : Below w0.heap.size w0 W
theorem kept_set {t : TypeId} {W : World} {q j : Nat} {cs : Array Value} (h : W.heap[q]? = some (.cells cs t (0, 0))) (x : Value) : KeptBut t W (W.setCell ⟨q, j, none⟩ x) :=
  ⟨by rw [World.size_setCell]; exact Nat.le_refl _, fun k o ho hn => by
    by_cases e : k = q
    · subst e; rw [h] at ho; cases ho; exact absurd rfl (hn _ _)
    · rw [heap_setCell_other W ⟨q, j, none⟩ k x e]; exact ho⟩
theorem BagI.add {α : Type} {enc : α → List Value} {size base : Nat} {e : TypeId} {W : World} {L : Lists α} (h : BagI enc size base e W (L.map fun x => start x.1 x.2)) {v : Value} {xs : List α} (hr : Row enc size base e W v xs)
    (hf : ∀ b, v.ownBlock = some b → ∀ x ∈ L, x.1.ownBlock ≠ some b) : BagI enc size base e W ((L ++ [(v, xs)]).map fun x => start x.1 x.2) := by
  have get : ∀ j (hj : j < ((L ++ [(v, xs)]).map fun x => start x.1 x.2).length), (∃ hj2 : j < L.length, ((L ++ [(v, xs)]).map fun x => start x.1 x.2)[j] = start L[j].1 L[j].2) ∨ (j = L.length ∧ ((L ++ [(v, xs)]).map fun x => start x.1 x.2)[j] = start v xs) := fun j hj => by
    by_cases e : j < L.length
    · exact .inl ⟨e, by rw [List.getElem_map, List.getElem_append_left e]⟩
    · have : j = L.length := by simp at hj; omega
      subst this
      exact .inr ⟨rfl, by rw [List.getElem_map, List.getElem_append_right (Nat.le_refl _)]; simp⟩
  refine ⟨fun j hj => ?_, fun j k hj hk hne b hjb hkb => ?_⟩
  · rcases get j hj with ⟨h2, h3⟩ | ⟨_, h3⟩
    · rw [h3]
      have := h.ok j (by simpa using h2)
      rw [List.getElem_map] at this
      exact this
    · rw [h3]; exact start_good hr
  · rcases get j hj with ⟨h2, h3⟩ | ⟨e1, h3⟩ <;> rcases get k hk with ⟨h4, h5⟩ | ⟨e2, h5⟩
    · rw [h3] at hjb; rw [h5] at hkb
      exact h.apart j k (by simpa using h2) (by simpa using h4) hne b (by rw [List.getElem_map]; exact hjb) (by rw [List.getElem_map]; exact hkb)
    · rw [h3, start_has] at hjb; rw [h5, start_has] at hkb
      exact hf b hkb _ (List.getElem_mem h2) hjb
    · rw [h3, start_has] at hjb; rw [h5, start_has] at hkb
      exact hf b hjb _ (List.getElem_mem h4) hkb
    · omega
theorem end0 {P : Program} {fn : Func} {R : Ending → World → Prop} {a : Act} {w : World} (hr : fn.results = #[]) (hd : a.defers = []) (hR : R (.returned (.tuple #[])) w) : bodyPost P fn R .normal a w :=
  bodyPost_end (results_none hr _ _ _) hd hR
theorem frozen_row {W : World} {q j : Nat} {cs : Array Value} {t : TypeId} (h : W.heap[q]? = some (.cells cs t (0, 0))) : W.frozen? ⟨q, j, none⟩ = false := by
  simp [World.frozen?, h]
set_option maxRecDepth 100000 in
set_option maxHeartbeats 8000000 in
theorem addE_calls (w0 W : World) (q : Nat) (vI vE : Value) (LI : Lists S39) (LE : Lists S41) (A : Option Addr) (nv cv : Nat) (xs : List S41) (hS : StB w0 q vI vE LI LE W) (hn : LE.length ≤ 100)
    (hr : Row encE 3 w0.heap.size 41 W (.slice A nv cv) xs) (hf : ∀ b, (Value.slice A nv cv).ownBlock = some b → ∀ x ∈ LE, x.1.ownBlock ≠ some b) :
    Calls Tryz.prog 21 #[.pointer (some ⟨q, 0, none⟩), .slice A nv cv] W fun e w' => e = .returned (.tuple #[]) ∧ (∃ v2, StB w0 q vI v2 LI (LE ++ [(.slice A nv cv, xs)]) w') ∧ ∃ w3, KeptBut 22 W w3 ∧ KeptBut 65 w3 w' := by
  obtain ⟨A5, c5, h5, h5c⟩ := hS.rowE.slice
  have hlen : (LE.map Prod.fst).length = LE.length := by simp
  rw [hlen] at h5 h5c
  subst h5
  obtain ⟨n, hnn⟩ : ∃ n, LE.length = n := ⟨_, rfl⟩
  rw [hnn] at hn h5c hlen hS
  obtain ⟨W9, hW9⟩ : ∃ V, W.alloc (.cells #[.slice A nv cv] 22) = V := ⟨_, rfl⟩
  have hB9 : Below W.heap.size W W9 := by rw [← hW9]; exact below_alloc (Below.refl _ _) _
  have hz9 : W9.heap[W.heap.size]? = some (.cells #[.slice A nv cv] 22 (0, 0)) := by rw [← hW9]; exact World.alloc_heap_new W _
  have o : W.cell? ⟨q, 5, none⟩ = some (.slice A5 n c5) := cell_row hS.bag rfl
  have hRow9 := hS.rowE.of_below hB9
  have hown : W9.ownsRow w0.heap.size 22 1 (.slice A5 n c5) n (LE.map Prod.fst) := by
    have := hRow9
    unfold Row at this
    rw [encS_flat, hlen] at this; exact this
  have hszz : w0.heap.size ≤ W9.heap.size := Nat.le_trans hS.below.size hB9.size
  have HO := Lib.hid hown
  have HS := Lib.hid hS
  have HR := Lib.hid (And.intro hr hf)
  have HZ9 := Lib.hid hz9
  have HB9 := Lib.hid hB9
  have HRow := Lib.hid hRow9
  have HN := Lib.hid (And.intro hnn hlen)
  have HSZ := Lib.hid hszz
  have q1 : decide ((n : Int) < 600) = true := decide_eq_true (by omega)
  obtain ⟨i0, hi0, hzz⟩ := Option.map_eq_some_iff.1 infoEs
  simp only [Prod.mk.injEq] at hzz
  obtain ⟨hz0, hz1, hz2⟩ := hzz
  have HI := Lib.hid (And.intro hi0 (And.intro hz0 (And.intro hz1 hz2)))
  clear hB9 hz9 hRow9 hown hS hr hf hi0 hz0 hz1 hz2 hszz
  clear hnn hlen
  go_enter Tryz.func21, Tryz.ntmps21
  go_wp2_with (first | ((with_reducible refine gate_builtin (b := .append) (xs := #[.tmp 14, .tmp 16]) rfl ?_); at_builtin; refine wpList_app rfl (.tmp 14) (.tmp 16) 48 rfl 22 i0 _ 1 24 Tryz.underlying48 HI.out.1 HI.out.2.1 HI.out.2.2.1 HI.out.2.2.2 rfl (by decide) w0.heap.size (.slice A5 n c5) n (LE.map Prod.fst) rfl HO.out ⟨W.heap.size, 0, none⟩ 1 [.slice A nv cv] rfl rfl (World.news_of_block (cs := #[.slice A nv cv]) (t := 22) (fr := (0, 0)) HZ9.out) (by simp [Value.oneCell']) (by unfold maxLen; omega) (by omega) HSZ.out ?_; intro g cap w3 hown2 hA; have hK3 : KeptBut 22 W w3 := ((KeptBut.refl 22 W).step HB9.out).app HRow.out hA; have hq3 := hK3.kept q _ HS.out.bag (fun cs fr h => by simp at h); have s0 : w3.cell? ⟨q, 5, none⟩ = some (.slice A5 n c5) := (cell_row hq3 rfl); have f0 : w3.frozen? ⟨q, 5, none⟩ = false := frozen_row hq3; have HK3 := Lib.hid hK3; have HQ3 := Lib.hid hq3; have HA := Lib.hid hA; have HO2 := Lib.hid hown2; clear hown2 hA hK3 hq3))
  refine end0 rfl rfl ?_
  refine ⟨rfl, ⟨.slice (some ⟨g, 0, none⟩) (n + 1) cap, ?_⟩, w3, HK3.out, kept_set HQ3.out _⟩
  have k4 := kept_set (j := 5) HQ3.out (.slice (some ⟨g, 0, none⟩) (n + 1) cap)
  have hS := HS.out
  have row2 : Row encS 1 w0.heap.size 22 w3 (.slice (some ⟨g, 0, none⟩) (n + 1) cap) ((LE ++ [(Value.slice A nv cv, xs)]).map Prod.fst) := by
    rw [List.map_append]
    exact row_of_own HO2.out (by simp [HN.out.1])
  exact {
    bag := heap_setCell_same w3 q 5 _ _ _ HQ3.out
    q0 := hS.q0
    rowI := (hS.rowI.keptBut HK3.out (by decide)).keptBut k4 (by decide)
    rowE := row2.keptBut k4 (by decide)
    bagI := BagI.keptBut (BagI.keptBut hS.bagI HK3.out (by decide)) k4 (by decide)
    bagE := BagI.keptBut (BagI.keptBut (BagI.add hS.bagE HR.out.1 HR.out.2) HK3.out (by decide)) k4 (by decide)
    below := (below_app (below_step hS.below HB9.out) (fun b hb => (HRow.out.lt hb).1) HA.out).setCell (p := ⟨q, 5, none⟩) hS.q0 _ }
set_option maxRecDepth 100000 in
set_option maxHeartbeats 8000000 in
theorem addI_calls (w0 W : World) (q : Nat) (vI vE : Value) (LI : Lists S39) (LE : Lists S41) (A : Option Addr) (nv cv : Nat) (xs : List S39) (hS : StB w0 q vI vE LI LE W) (hn : LI.length ≤ 100)
    (hr : Row encI 2 w0.heap.size 39 W (.slice A nv cv) xs) (hf : ∀ b, (Value.slice A nv cv).ownBlock = some b → ∀ x ∈ LI, x.1.ownBlock ≠ some b) :
    Calls Tryz.prog 22 #[.pointer (some ⟨q, 0, none⟩), .slice A nv cv] W fun e w' => e = .returned (.tuple #[]) ∧ (∃ v2, StB w0 q v2 vE (LI ++ [(.slice A nv cv, xs)]) LE w') ∧ ∃ w3, KeptBut 23 W w3 ∧ KeptBut 65 w3 w' := by
  obtain ⟨A5, c5, h5, h5c⟩ := hS.rowI.slice
  have hlen : (LI.map Prod.fst).length = LI.length := by simp
  rw [hlen] at h5 h5c
  subst h5
  obtain ⟨n, hnn⟩ : ∃ n, LI.length = n := ⟨_, rfl⟩
  rw [hnn] at hn h5c hlen hS
  obtain ⟨W9, hW9⟩ : ∃ V, W.alloc (.cells #[.slice A nv cv] 23) = V := ⟨_, rfl⟩
  have hB9 : Below W.heap.size W W9 := by rw [← hW9]; exact below_alloc (Below.refl _ _) _
  have hz9 : W9.heap[W.heap.size]? = some (.cells #[.slice A nv cv] 23 (0, 0)) := by rw [← hW9]; exact World.alloc_heap_new W _
  have o : W.cell? ⟨q, 4, none⟩ = some (.slice A5 n c5) := cell_row hS.bag rfl
  have hRow9 := hS.rowI.of_below hB9
  have hown : W9.ownsRow w0.heap.size 23 1 (.slice A5 n c5) n (LI.map Prod.fst) := by
    have := hRow9
    unfold Row at this
    rw [encS_flat, hlen] at this; exact this
  have hszz : w0.heap.size ≤ W9.heap.size := Nat.le_trans hS.below.size hB9.size
  have HO := Lib.hid hown
  have HS := Lib.hid hS
  have HR := Lib.hid (And.intro hr hf)
  have HZ9 := Lib.hid hz9
  have HB9 := Lib.hid hB9
  have HRow := Lib.hid hRow9
  have HN := Lib.hid (And.intro hnn hlen)
  have HSZ := Lib.hid hszz
  have q1 : decide ((n : Int) < 600) = true := decide_eq_true (by omega)
  obtain ⟨i0, hi0, hzz⟩ := Option.map_eq_some_iff.1 infoIs
  simp only [Prod.mk.injEq] at hzz
  obtain ⟨hz0, hz1, hz2⟩ := hzz
  have HI := Lib.hid (And.intro hi0 (And.intro hz0 (And.intro hz1 hz2)))
  clear hB9 hz9 hRow9 hown hS hr hf hi0 hz0 hz1 hz2 hszz
  clear hnn hlen
  go_enter Tryz.func22, Tryz.ntmps22
  go_wp2_with (first | ((with_reducible refine gate_builtin (b := .append) (xs := #[.tmp 14, .tmp 16]) rfl ?_); at_builtin; refine wpList_app rfl (.tmp 14) (.tmp 16) 47 rfl 23 i0 _ 1 24 Tryz.underlying47 HI.out.1 HI.out.2.1 HI.out.2.2.1 HI.out.2.2.2 rfl (by decide) w0.heap.size (.slice A5 n c5) n (LI.map Prod.fst) rfl HO.out ⟨W.heap.size, 0, none⟩ 1 [.slice A nv cv] rfl rfl (World.news_of_block (cs := #[.slice A nv cv]) (t := 23) (fr := (0, 0)) HZ9.out) (by simp [Value.oneCell']) (by unfold maxLen; omega) (by omega) HSZ.out ?_; intro g cap w3 hown2 hA; have hK3 : KeptBut 23 W w3 := ((KeptBut.refl 23 W).step HB9.out).app HRow.out hA; have hq3 := hK3.kept q _ HS.out.bag (fun cs fr h => by simp at h); have s0 : w3.cell? ⟨q, 4, none⟩ = some (.slice A5 n c5) := (cell_row hq3 rfl); have f0 : w3.frozen? ⟨q, 4, none⟩ = false := frozen_row hq3; have HK3 := Lib.hid hK3; have HQ3 := Lib.hid hq3; have HA := Lib.hid hA; have HO2 := Lib.hid hown2; clear hown2 hA hK3 hq3))
  refine end0 rfl rfl ?_
  refine ⟨rfl, ⟨.slice (some ⟨g, 0, none⟩) (n + 1) cap, ?_⟩, w3, HK3.out, kept_set HQ3.out _⟩
  have k4 := kept_set (j := 4) HQ3.out (.slice (some ⟨g, 0, none⟩) (n + 1) cap)
  have hS := HS.out
  have row2 : Row encS 1 w0.heap.size 23 w3 (.slice (some ⟨g, 0, none⟩) (n + 1) cap) ((LI ++ [(Value.slice A nv cv, xs)]).map Prod.fst) := by
    rw [List.map_append]
    exact row_of_own HO2.out (by simp [HN.out.1])
  exact {
    bag := heap_setCell_same w3 q 4 _ _ _ HQ3.out
    q0 := hS.q0
    rowI := row2.keptBut k4 (by decide)
    rowE := (hS.rowE.keptBut HK3.out (by decide)).keptBut k4 (by decide)
    bagI := BagI.keptBut (BagI.keptBut (BagI.add hS.bagI HR.out.1 HR.out.2) HK3.out (by decide)) k4 (by decide)
    bagE := BagI.keptBut (BagI.keptBut hS.bagE HK3.out (by decide)) k4 (by decide)
    below := (below_app (below_step hS.below HB9.out) (fun b hb => (HRow.out.lt hb).1) HA.out).setCell (p := ⟨q, 4, none⟩) hS.q0 _ }
end Go.Proofs.YtgjgafibipepeaaGreatDoor.Bag
namespace Go.Proofs.YtgjgafibipepeaaGreatDoor.Bag
open Go.RowKit Go.Proofs.YtgjgafibipepeaaGreatDoorW.PrintWords Go.Deep Go.Maps Go.WideShapes Go.Lib
open Go.Proofs.YtgjgafibipepeaaGreatDoor.Pr (S39 S41 k39 k41 z39 z41 info39 info41)
open Go.Proofs.YtgjgafibipepeaaGreatDoor.Q
set_option linter.unusedVariables false
set_option linter.unusedSimpArgs false
/-! THE BAG, FILLED: APART -/
theorem outer {α : Type} {W : World} {base : Nat} {t : TypeId} {v : Value} {L : Lists α} (h : Row encS 1 base t W v (L.map Prod.fst)) (hL : 0 < L.length) :
    ∃ p c cs, v = .slice (some ⟨p, 0, none⟩) L.length c ∧ L.length ≤ c ∧ W.heap[p]? = some (.cells cs t (0, 0)) ∧ ∀ j (hj : j < L.length), cs[j]? = some L[j].1 := by
  have hlen : (L.map Prod.fst).length = L.length := by simp
  rcases h.shape with ⟨_, h2⟩ | ⟨p, c, h1, h2, _, cs, h3⟩
  · have := congrArg List.length h2
    rw [hlen] at this; simp at this; rw [this] at hL; simp at hL
  · rw [hlen] at h1 h2
    refine ⟨p, c, cs, h1, h2, h3, fun j hj => ?_⟩
    subst h1
    have h4 : Row encS 1 base t W (.slice (some ⟨p, 0, none⟩) (L.map Prod.fst).length c) (L.map Prod.fst) := by rw [hlen]; exact h
    have h5 := Row.cell (enc := encS) (size := 1) (fun _ => rfl) h4 (k := j) (by rw [hlen]; exact hj) (j := 0) (u := L[j].1) (by rw [List.getElem_map]; rfl)
    have h6 := cell_of_row W p (j * 1 + 0) _ _ _ h3
    rw [h6] at h5
    rw [Nat.mul_one] at h5
    exact h5
theorem bag_all (w0 W : World) (q : Nat) (vI vE : Value) (LI : Lists S39) (LE : Lists S41) (hS : StB w0 q vI vE LI LE W) (hI0 : 0 < LI.length) (hE0 : 0 < LE.length) (hI1 : LI.length ≤ 1000) (hE1 : LE.length ≤ 1000)
    (hI2 : ∀ j (hj : j < LI.length), LI[j].2.length ≤ 4294967296) (hE2 : ∀ j (hj : j < LE.length), LE[j].2.length ≤ 4294967296) (hE : Env w0) :
    Calls Tryz.prog 23 #[.pointer (some ⟨q, 0, none⟩)] W fun e w' => e = .returned (.bool true) ∧ Below w0.heap.size w0 w' := by
  obtain ⟨pI, cI, csI, rfl, a1, a2, a3⟩ := outer hS.rowI hI0
  obtain ⟨pE, cE, csE, rfl, b1, b2, b3⟩ := outer hS.rowE hE0
  exact bag_apart w0 W q pI cI csI LI pE cE csE LE ⟨hS.bag, a2, b2, hS.bagI, hS.bagE, hS.below⟩ hI1 a1 a3 hI2 hE1 b1 b3 hE2 hE
/-- an empty bag in a block of one's own -/
theorem StB.empty {w0 W : World} {q : Nat} (h : W.heap[q]? = some (.cells (bagCells (.slice none 0 0) (.slice none 0 0)) 65 (0, 0))) (hq : w0.heap.size ≤ q) (hB : Below w0.heap.size w0 W) :
    StB w0 q (.slice none 0 0) (.slice none 0 0) [] [] W :=
  ⟨h, hq, ⟨rfl, .inl ⟨rfl, rfl⟩⟩, ⟨rfl, .inl ⟨rfl, rfl⟩⟩, ⟨fun j hj => absurd hj (Nat.not_lt_zero _), fun j k hj => absurd hj (Nat.not_lt_zero _)⟩, ⟨fun j hj => absurd hj (Nat.not_lt_zero _), fun j k hj => absurd hj (Nat.not_lt_zero _)⟩, hB⟩
end Go.Proofs.YtgjgafibipepeaaGreatDoor.Bag
namespace Go.Proofs.YtgjgafibipepeaaGreatDoor.Bag
open Go.RowKit Go.Proofs.YtgjgafibipepeaaGreatDoorW.PrintWords Go.Deep Go.Maps Go.WideShapes Go.Lib
open Go.Proofs.YtgjgafibipepeaaGreatDoor.Pr (S39 S41 k39 k41 z39 z41 info39 info41 rd_T39 rd_T41)
open Go.Proofs.YtgjgafibipepeaaGreatDoor.Q
open Go.Proofs.YtgjgafibipepeaaGreatDoor
set_option linter.unusedVariables false
set_option linter.unusedSimpArgs false
/-! WHAT THE WALK OF ACLFIXES TAKES: COPIES; ROWS OF ONE'S OWN OUT OF CONTRACTS -/
theorem copyE_f (l : List S41) (hl : l.length ≤ 3518437208882) : ∃ k, Pr.lagoonref00_CopyAcl.f k l = some l := by
  have go : ∀ d i k, i + d = l.length → d < k → Pr.lagoonref00_CopyAcl.l0 k l (l.take i) (i : Int) = some l := by
    intro d
    induction d with
    | zero =>
      intro i k hi hk
      obtain ⟨k, rfl⟩ : ∃ m, k = m + 1 := ⟨k - 1, by omega⟩
      rw [Pr.lagoonref00_CopyAcl.l0, if_neg (by omega), List.take_of_length_le (by omega)]
    | succ d ih =>
      intro i k hi hk
      obtain ⟨k, rfl⟩ : ∃ m, k = m + 1 := ⟨k - 1, by omega⟩
      have hlt : i < l.length := by omega
      have hr : rd_T41 l (i : Int) = l[i] := by simp [rd_T41, List.getD, List.getElem?_eq_getElem hlt]
      rw [Pr.lagoonref00_CopyAcl.l0, if_pos (by omega), if_pos (by omega), if_pos (by rw [List.length_take]; omega), hr, w64 (by omega) (by omega)]
      have := ih (i + 1) k (by omega) (by omega)
      rw [List.take_add_one, List.getElem?_eq_getElem hlt] at this
      exact this
  exact ⟨l.length + 1, go l.length 0 _ (by omega) (by omega)⟩
theorem copyE_calls (A : Option Addr) (c : Nat) (l : List S41) (w : World) (hr : Kd.C k41 w A l.length l) (hc : l.length ≤ c) (hl : l.length ≤ 4294967296) :
    Calls Tryz.prog 20 #[.slice A l.length c] w fun e w' => ∃ v, e = .returned v ∧ Row encE 3 w.heap.size 41 w' v l ∧ Below w.heap.size w w' := by
  obtain ⟨k, hk⟩ := copyE_f l (by omega)
  exact (Pr.lagoonref00_CopyAcl.calls k A c l l w hr hc hk).mono fun e w' ⟨v, h1, h2, h3⟩ => ⟨v, h1, row_of_R (enc := encE) (size := 3) rfl (fun _ => rfl) (fun w b o x cs hx => Pr.k41_openM hx) h2, h3⟩
/-- the first elements of a wide list, as a row of one's own -/
theorem wide_row {W : World} {base g n cap : Nat} {l : List S41} (h : Kd.R k41 41 W base (fun _ => True) (.slice (some ⟨g, 0, none⟩) n cap) (wideE l)) (hn : (wideE l).length = n) : Row encE 3 base 41 W (.slice (some ⟨g, 0, none⟩) l.length cap) l := by
  have h1 := row_of_R (enc := encE) (size := 3) rfl (fun _ => rfl) (fun w b o x cs hx => Pr.k41_openM hx) h
  unfold Row at h1
  rw [hn] at h1
  unfold wideE at h1 hn
  exact row_head (n0 := 0) (fun _ => rfl) h1 hn
/-- the first elements of a wide list, as a row of one's own -/
theorem wide_rowI {W : World} {base g n cap : Nat} {l : List S39} (h : Kd.R k39 39 W base (fun _ => True) (.slice (some ⟨g, 0, none⟩) n cap) (wideI l)) (hn : (wideI l).length = n) : Row encI 2 base 39 W (.slice (some ⟨g, 0, none⟩) l.length cap) l := by
  have h1 := row_of_R (enc := encI) (size := 2) rfl (fun _ => rfl) (fun w b o x cs hx => Pr.k39_openM hx) h
  unfold Row at h1
  rw [hn] at h1
  unfold wideI at h1 hn
  exact row_head (n0 := 0) (fun _ => rfl) h1 hn
end Go.Proofs.YtgjgafibipepeaaGreatDoor.Bag
namespace Go.Proofs.YtgjgafibipepeaaGreatDoor.Bag
open Go.RowKit Go.Proofs.YtgjgafibipepeaaGreatDoorW.PrintWords Go.Deep Go.Maps Go.WideShapes Go.Lib
open Go.Proofs.YtgjgafibipepeaaGreatDoor.Pr (S39 S41 k39 k41 z39 z41 info39 info41)
open Go.Proofs.YtgjgafibipepeaaGreatDoor.Q
set_option linter.unusedVariables false
set_option linter.unusedSimpArgs false
/-! ONE ENTRY'S PERMS ARE STORED ANEW -/
theorem flip_row {W : World} {base g cap : Nat} {l : List S41} (h : Row encE 3 base 41 W (.slice (some ⟨g, 0, none⟩) l.length cap) l) {k : Int} (k0 : 0 ≤ k) (hk : k < (l.length : Int)) :
    W.cell? ⟨g, k.toNat * 3, none⟩ = some (.int .i8 (l[k.toNat]'(by omega)).f0) ∧ W.frozen? ⟨g, k.toNat * 3, none⟩ = false ∧
    ∀ p : Int, Row encE 3 base 41 (W.setCell ⟨g, k.toNat * 3, none⟩ (.int .i8 p)) (.slice (some ⟨g, 0, none⟩) l.length cap) (l.set k.toNat ⟨p, (l[k.toNat]'(by omega)).f1⟩) ∧ W.grownBy (W.setCell ⟨g, k.toNat * 3, none⟩ (.int .i8 p)) (some g) := by
  have hlt : k.toNat < l.length := by omega
  have hR := R_of_row (d := k41) rfl (fun _ => rfl) (fun w b o x => Pr.k41_mkM w b o x) h
  obtain ⟨cf, hcl, hNc, hcc, hfr⟩ := Kd.R_elem hR z41 k k0 hk
  obtain rfl := Pr.k41_openM hNc
  have e : (l[k.toNat]?.getD z41) = l[k.toNat] := by rw [List.getElem?_eq_getElem hlt]; rfl
  refine ⟨?_, hfr 0, fun p => ?_⟩
  · have h0 := hcc 0 _ rfl
    simp only [List.getD, e] at h0
    exact h0
  · have hs := Kd.R_seg hR k k0 hk (seg := [.int .i8 p]) (j := 0) (okp := fun _ => False) (x' := ⟨p, l[k.toNat].f1⟩) hcl hcc (Nat.le_of_ble_eq_true rfl) (by simp only [List.getD, e]; exact Pr.k41_mkM _ _ (fun _ => False) _) (fun _ h => h.elim)
    have hl : (l.set k.toNat (⟨p, l[k.toNat].f1⟩ : S41)).length = l.length := by simp
    have hrow2 := row_of_R (enc := encE) (size := 3) rfl (fun _ => rfl) (fun w b o x cs hx => Pr.k41_openM hx) hs.1
    exact ⟨hrow2, hs.2⟩
/-- a row of one's own, read -/
theorem row_C {W : World} {base : Nat} {v : Value} {xs : List S41} (h : Row encE 3 base 41 W v xs) : ∃ A c, v = .slice A xs.length c ∧ xs.length ≤ c ∧ Kd.C k41 W A xs.length xs := by
  obtain ⟨A, c, h1, h2⟩ := h.slice
  have hR := R_of_row (d := k41) rfl (fun _ => rfl) (fun w b o x => Pr.k41_mkM w b o x) h
  rw [h1] at hR
  exact ⟨A, c, h1, h2, (Kd.R_reads' hR).2.2⟩
theorem eqE_calls (A B : Option Addr) (a b : Nat) (l : List S41) (w : World) (h1 : Kd.C k41 w A l.length l) (ha : l.length ≤ a) (h2 : Kd.C k41 w B l.length l) (hb : l.length ≤ b) (hl : l.length ≤ 4294967296) :
    Calls Tryz.prog 13 #[.slice A l.length a, .slice B l.length b] w fun e w' => e = .returned (.bool true) ∧ Below w.heap.size w w' := by
  obtain ⟨k, hk⟩ := eqAcl_self l hl
  exact (Pr.lagoonref00_EqAcl.calls k A a l B b l true w h1 ha h2 hb hk).mono fun e w' h => ⟨h.1, by first | exact h.2.below | exact h.2⟩
end Go.Proofs.YtgjgafibipepeaaGreatDoor.Bag
namespace Go.Proofs.YtgjgafibipepeaaGreatDoor.Bag
open Go.RowKit Go.Proofs.YtgjgafibipepeaaGreatDoorW.PrintWords Go.Deep Go.Maps Go.WideShapes Go.Lib
open Go.Proofs.YtgjgafibipepeaaGreatDoor.Pr (S39 S41 k39 k41 z39 z41 info39 info41)
open Go.Proofs.YtgjgafibipepeaaGreatDoor.Q
set_option linter.unusedVariables false
set_option linter.unusedSimpArgs false
/-! ACLFIXES: WHAT THE WALK KEEPS: THE ROWS, APART FROM EACH OTHER -/
section
variable {α : Type} {enc : α → List Value} {size base : Nat} {e : TypeId} {W W' : World} {L : Lists α}
/-- no row yet -/
theorem BagI.zero : BagI enc size base e W (([] : Lists α).map fun x => start x.1 x.2) := ⟨fun j hj => absurd hj (Nat.not_lt_zero _), fun j k hj => absurd hj (Nat.not_lt_zero _)⟩
/-- one more row, which a call has made -/
theorem BagI.more (h : BagI enc size base e W (L.map fun x => start x.1 x.2)) (hB : Below W.heap.size W W') (hb : base ≤ W.heap.size) {v : Value} {xs : List α} (hr : Row enc size W.heap.size e W' v xs) :
    BagI enc size base e W' ((L ++ [(v, xs)]).map fun x => start x.1 x.2) := by
  refine BagI.add (h.below hB) (own_lower hr hb) fun b hb' x hx hx' => ?_
  have h1 := (hr.lt hb').1
  obtain ⟨j, hj, rfl⟩ := List.getElem_of_mem hx
  have h2 := h.ok j (by simpa using hj)
  rw [List.getElem_map] at h2
  have := (h2.rv.lt (b := b) hx').2
  omega
theorem BagI.row (h : BagI enc size base e W (L.map fun x => start x.1 x.2)) {j : Nat} {v : Value} {xs : List α} (hj : L[j]? = some (v, xs)) : Row enc size base e W v xs := by
  obtain ⟨hlt, he⟩ := List.getElem?_eq_some_iff.1 hj
  have h2 := h.ok j (by simpa using hlt)
  rw [List.getElem_map, he] at h2
  exact h2.rv
theorem BagI.fresh (h : BagI enc size base e W (L.map fun x => start x.1 x.2)) {j k : Nat} {v u : Value} {xs ys : List α} (hne : j ≠ k) (hj : L[j]? = some (v, xs)) (hk : L[k]? = some (u, ys)) : ∀ b, v.ownBlock = some b → u.ownBlock ≠ some b := by
  obtain ⟨jlt, je⟩ := List.getElem?_eq_some_iff.1 hj
  obtain ⟨klt, ke⟩ := List.getElem?_eq_some_iff.1 hk
  intro b h1 h2
  refine h.apart j k (by simpa using jlt) (by simpa using klt) hne b ?_ ?_
  · rw [List.getElem_map, je]; exact start_has.2 h1
  · rw [List.getElem_map, ke]; exact start_has.2 h2
/-- a store into the first row -/
theorem BagI.put0 {v : Value} {xs xs' : List α} (h : BagI enc size base e W (((v, xs) :: L).map fun x => start x.1 x.2)) {g : Nat} (hv : v.ownBlock = some g) (hrow : Row enc size base e W' v xs') (hg : W.grownBy W' (some g)) :
    BagI enc size base e W' (((v, xs') :: L).map fun x => start x.1 x.2) := by
  have := BagI.put h (i := 0) (by simp) (v := v) (xs := xs) (xs' := xs') rfl hv hrow hg
  simpa using this
end
/-- two rows that hold the same list are equal -/
theorem eqRows_calls {W : World} {b1 b2 : Nat} {v u : Value} {xs : List S41} (hv : Row encE 3 b1 41 W v xs) (hu : Row encE 3 b2 41 W u xs) (hl : xs.length ≤ 4294967296) :
    Calls Tryz.prog 13 #[v, u] W fun e w' => e = .returned (.bool true) ∧ Below W.heap.size W w' := by
  obtain ⟨A, a, rfl, ha, h1⟩ := row_C hv
  obtain ⟨B, b, rfl, hb, h2⟩ := row_C hu
  exact eqE_calls A B a b xs W h1 ha h2 hb hl
/-- a row of ids, read -/
theorem row_CI {W : World} {base : Nat} {v : Value} {xs : List S39} (h : Row encI 2 base 39 W v xs) : ∃ A c, v = .slice A xs.length c ∧ xs.length ≤ c ∧ Kd.C k39 W A xs.length xs := by
  obtain ⟨A, c, h1, h2⟩ := h.slice
  have hR := R_of_row (d := k39) rfl (fun _ => rfl) (fun w b o x => Pr.k39_mkM w b o x) h
  rw [h1] at hR
  exact ⟨A, c, h1, h2, (Kd.R_reads' hR).2.2⟩
theorem fixOut_row {w w' : World} {r : Option (List S41)} {e : Ending} (h : FixOut w r e w') : ∃ v, e = .returned (.tuple #[v, errV r.isSome]) ∧ Row encE 3 w.heap.size 41 w' v (r.getD []) := by
  cases r with
  | none => exact ⟨_, h, rfl, .inl ⟨rfl, rfl⟩⟩
  | some f =>
    obtain ⟨v, h1, h2⟩ := h
    exact ⟨v, h1, row_of_R (enc := encE) (size := 3) rfl (fun _ => rfl) (fun w b o x cs hx => Pr.k41_openM hx) h2⟩
/-- what Fix and the reference's Fix answer, alike -/
structure Both (l : List S41) (who : List S39) (F : List S41) (z : Int) : Prop where
  small : F.length ≤ 4
  own : ∀ (A0 A1 : Option Addr) (c0 c1 : Nat) (w : World), Kd.C k41 w A0 l.length l → l.length ≤ c0 → Kd.C k39 w A1 who.length who → who.length ≤ c1 → Env w →
    Calls Tryz.prog 19 #[.slice A0 l.length c0, .slice A1 who.length c1] w fun e w' => ∃ v, e = .returned (.tuple #[v, .int .i64 z]) ∧ Row encE 3 w.heap.size 41 w' v F ∧ Below w.heap.size w w'
  ref : ∀ (A0 A1 : Option Addr) (c0 c1 : Nat) (w : World), Kd.C k41 w A0 l.length l → l.length ≤ c0 → Kd.C k39 w A1 who.length who → who.length ≤ c1 →
    Calls Tryz.prog 18 #[.slice A0 l.length c0, .slice A1 who.length c1] w fun e w' => ∃ v, e = .returned (.tuple #[v, .int .i64 z]) ∧ Row encE 3 w.heap.size 41 w' v F ∧ Below w.heap.size w w'
theorem fix_both (l : List S41) (who : List S39) (hsl : ∀ x ∈ l, smE x) (hsw : ∀ x ∈ who, smI x) (hl : l.length < 2147483648) (hw : who.length < 2147483648) : ∃ F z, Both l who F z := by
  refine ⟨(fixB l who).getD [], if (fixB l who).isSome then 0 else 60, ?_, fun A0 A1 c0 c1 w h0 hc0 h1 hc1 hE => ?_, fun A0 A1 c0 c1 w h0 hc0 h1 hc1 => ?_⟩
  · cases hf : fixB l who with
    | none => simp
    | some f => exact (checkB_iff.1 (fix_right hf).1).1
  · refine (fix_calls A0 A1 c0 c1 l who w h0 hc0 h1 hc1 hsl hsw hl hw hE).mono fun e w' ⟨h2, h3⟩ => ?_
    obtain ⟨v, h4, h5⟩ := fixOut_row h2
    exact ⟨v, h4, h5, h3⟩
  · have hff := fix_f l who hsl hsw (536871000 + 60) (Nat.le_refl _)
    have he : fixR (fixB l who) = ((fixB l who).getD [], if (fixB l who).isSome then 0 else 60) := by
      cases fixB l who <;> rfl
    rw [he] at hff
    exact (Pr.lagoonref06_Fix.calls _ A0 c0 l A1 c1 who _ _ w h0 hc0 h1 hc1 hff).mono fun e w' ⟨v, h1, h2, h3⟩ => ⟨v, h1, row_of_R (enc := encE) (size := 3) rfl (fun _ => rfl) (fun w b o x cs hx => Pr.k41_openM hx) h2, h3⟩
theorem Both.ownRow {l : List S41} {who : List S39} {F : List S41} {z : Int} (h : Both l who F z) {v u : Value} {b1 b2 : Nat} {W : World} (hv : Row encE 3 b1 41 W v l) (hu : Row encI 2 b2 39 W u who) (hE : Env W) :
    Calls Tryz.prog 19 #[v, u] W fun e w' => ∃ v, e = .returned (.tuple #[v, .int .i64 z]) ∧ Row encE 3 W.heap.size 41 w' v F ∧ Below W.heap.size W w' := by
  obtain ⟨A, a, rfl, ha, h1⟩ := row_C hv
  obtain ⟨B, b, rfl, hb, h2⟩ := row_CI hu
  exact h.own A B a b W h1 ha h2 hb hE
theorem Both.refRow {l : List S41} {who : List S39} {F : List S41} {z : Int} (h : Both l who F z) {v : Value} {b1 : Nat} {W : World} (hv : Row encE 3 b1 41 W v l) {A1 : Option Addr} {c1 : Nat} (h2 : Kd.C k39 W A1 who.length who) (hc : who.length ≤ c1) :
    Calls Tryz.prog 18 #[v, .slice A1 who.length c1] W fun e w' => ∃ v, e = .returned (.tuple #[v, .int .i64 z]) ∧ Row encE 3 W.heap.size 41 w' v F ∧ Below W.heap.size W w' := by
  obtain ⟨A, a, rfl, ha, h1⟩ := row_C hv
  exact h.ref A A1 a c1 W h1 ha h2 hc
theorem row_nil {e : TypeId} {b : Nat} {W : World} : Row encE 3 b e W (.slice none 0 0) [] := ⟨rfl, .inl ⟨rfl, rfl⟩⟩
theorem copyRow_calls {l : List S41} {v : Value} {b1 : Nat} {W : World} (hv : Row encE 3 b1 41 W v l) (hl : l.length ≤ 4294967296) :
    Calls Tryz.prog 20 #[v] W fun e w' => ∃ v, e = .returned v ∧ Row encE 3 W.heap.size 41 w' v l ∧ Below W.heap.size W w' := by
  obtain ⟨A, a, rfl, ha, h1⟩ := row_C hv
  exact copyE_calls A a l W h1 ha hl
/-! WHAT IS KEPT WHILE THE BAG IS FILLED -/
structure Keep (w0 : World) (q : Nat) (LI : Lists S39) (LE L : Lists S41) (u : Value) (who : List S39) (W : World) : Prop where
  st : ∃ vI vE, StB w0 q vI vE LI LE W
  rows : BagE w0 W (L.map fun x => start x.1 x.2)
  ids : Row encI 2 w0.heap.size 39 W u who
theorem Keep.addE {w0 W : World} {q : Nat} {LI : Lists S39} {LE L : Lists S41} {u : Value} {who : List S39} (h : Keep w0 q LI LE L u who W) {k : Nat} {v : Value} {xs : List S41} (hk : L[k]? = some (v, xs))
    (hd : ∀ x ∈ LE, ∃ j, j ≠ k ∧ L[j]? = some x) (hn : LE.length ≤ 100) :
    Calls Tryz.prog 21 #[.pointer (some ⟨q, 0, none⟩), v] W fun e w' => e = .returned (.tuple #[]) ∧ Keep w0 q LI (LE ++ [(v, xs)]) L u who w' := by
  obtain ⟨vI, vE, hS⟩ := h.st
  have hr := BagI.row h.rows hk
  have hf : ∀ b, v.ownBlock = some b → ∀ x ∈ LE, x.1.ownBlock ≠ some b := fun b hb x hx => by
    obtain ⟨j, hj, hx2⟩ := hd x hx
    exact BagI.fresh h.rows (Ne.symm hj) hk (u := x.1) (ys := x.2) hx2 b hb
  obtain ⟨A, c, hv, _⟩ := hr.slice
  rw [hv] at hr hf ⊢
  refine (addE_calls w0 W q vI vE LI LE A _ c xs hS hn hr hf).mono fun e w' h2 => ⟨h2.1, ?_⟩
  obtain ⟨⟨v2, h3⟩, w3, k1, k2⟩ := h2.2
  exact ⟨⟨vI, v2, h3⟩, BagI.keptBut (BagI.keptBut h.rows k1 (by decide)) k2 (by decide), (h.ids.keptBut k1 (by decide)).keptBut k2 (by decide)⟩
theorem Keep.addI {w0 W : World} {q : Nat} {LE L : Lists S41} {u : Value} {who : List S39} (h : Keep w0 q [] LE L u who W) :
    Calls Tryz.prog 22 #[.pointer (some ⟨q, 0, none⟩), u] W fun e w' => e = .returned (.tuple #[]) ∧ ∃ vI vE, StB w0 q vI vE [(u, who)] LE w' := by
  obtain ⟨vI, vE, hS⟩ := h.st
  have hr := h.ids
  obtain ⟨A, c, hv, _⟩ := hr.slice
  rw [hv] at hr ⊢
  refine (addI_calls w0 W q vI vE [] LE A _ c who hS (by simp) hr (fun b hb x hx => by cases hx)).mono fun e w' h2 => ⟨h2.1, ?_⟩
  obtain ⟨⟨v2, h3⟩, _⟩ := h2.2
  exact ⟨v2, vE, h3⟩
theorem Keep.empty {w0 W W' : World} {q : Nat} {L : Lists S41} {u : Value} {who : List S39} (hq : W'.heap[q]? = some (.cells (bagCells (.slice none 0 0) (.slice none 0 0)) 65 (0, 0))) (hq0 : w0.heap.size ≤ q) (hB0 : Below w0.heap.size w0 W') (hB : Below W.heap.size W W')
    (hr : BagE w0 W (L.map fun x => start x.1 x.2)) (hi : Row encI 2 w0.heap.size 39 W u who) : Keep w0 q [] [] L u who W' :=
  ⟨⟨_, _, StB.empty hq hq0 hB0⟩, hr.below hB, own_below hi hB⟩
theorem bag_end {w0 W : World} {q : Nat} {vI vE : Value} {LI : Lists S39} {LE : Lists S41} (hS : StB w0 q vI vE LI LE W) (hI0 : 0 < LI.length) (hE0 : 0 < LE.length) (hI1 : LI.length ≤ 1000) (hE1 : LE.length ≤ 1000)
    (hI2 : ∀ x ∈ LI, x.2.length ≤ 4294967296) (hE2 : ∀ x ∈ LE, x.2.length ≤ 4294967296) (hE : Env w0) :
    Calls Tryz.prog 23 #[.pointer (some ⟨q, 0, none⟩)] W fun e w' => e = .returned (.bool true) ∧ Below w0.heap.size w0 w' :=
  bag_all w0 W q vI vE LI LE hS hI0 hE0 hI1 hE1 (fun j hj => hI2 _ (List.getElem_mem hj)) (fun j hj => hE2 _ (List.getElem_mem hj)) hE
end Go.Proofs.YtgjgafibipepeaaGreatDoor.Bag
