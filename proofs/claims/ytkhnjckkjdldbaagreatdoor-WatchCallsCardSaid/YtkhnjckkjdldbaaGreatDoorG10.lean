import Derived.Test.YtkhnjckkjdldbaaGreatDoorG9
namespace Go.Proofs.YtkhnjckkjdldbaaGreatDoor.Q
open Go.RowKit Go.Proofs.YtkhnjckkjdldbaaGreatDoorW.PrintWords Go.Deep Go.Maps Go.WideShapes
open Go.Proofs.YtkhnjckkjdldbaaGreatDoor.Pr (S57 S59 S77 S61 k57 k77)
open Go.Proofs.YtkhnjckkjdldbaaGreatDoor
open Go.Proofs.YtkhnjckkjdldbaaGreatDoor.Bag (BagI Row Good Item Lists encS encFd BagWatches BagFired own_lower OwnOf own_is encS_flat row_of_own wpList_app apartWatches_calls apartFired_calls)
set_option linter.unusedVariables false
set_option linter.unusedSimpArgs false
attribute [local go_sem] Oper.semAt_some
/-! LISTS ARE ADDED TO THE BAG (printed by mkaddapart.py) -/
section
variable {w0 V0 : World} {c b r : Nat → Nat} {q aA aB : Nat} {P : Nat → WN} {came : Nat → Int} {x : Nat → Value} {L : Nat → List S57} {LW pw : Lists S57} {LF pf : Lists S77} {vW vF : Value} {W W' : World}
theorem Sys.dropW {y : Value × List S57} (h : Sys w0 V0 c b r q aA aB P came x L LW (y :: pw) LF pf vW vF W) : Sys w0 V0 c b r q aA aB P came x L LW pw LF pf vW vF W :=
  ⟨h.bel, h.size, h.brd, h.ref, h.arrA, h.arrB, h.bag, h.rows.sub ((((List.Sublist.refl LW).append (List.sublist_cons_self y pw)).cons_cons _).cons_cons _ |>.map _), h.fired, h.outW, h.outF⟩
theorem Sys.dropF {y : Value × List S77} (h : Sys w0 V0 c b r q aA aB P came x L LW pw LF (y :: pf) vW vF W) : Sys w0 V0 c b r q aA aB P came x L LW pw LF pf vW vF W :=
  ⟨h.bel, h.size, h.brd, h.ref, h.arrA, h.arrB, h.bag, h.rows, h.fired.sub (((List.Sublist.refl LF).append (List.sublist_cons_self y pf)).map _), h.outW, h.outF⟩
theorem Sys.turnW {v v' : Value} {T : List S57} (g : Geo w0 V0 c b r q aA aB) (h : Sys w0 V0 c b r q aA aB P came x L LW ((v, T) :: pw) LF pf vW vF W) (ho : Only (fun k => k = q ∨ vW.ownBlock = some k) W W') (hb : W'.heap[q]? = some (.cells (bagCells v' vF) 54 (0, 0)))
    (hrow : Row encS 1 V0.heap.size 64 W' v' ((LW ++ [(v, T)]).map Prod.fst)) : Sys w0 V0 c b r q aA aB P came x L (LW ++ [(v, T)]) pw LF pf v' vF W' := by
  have own : ∀ k, vW.ownBlock = some k → V0.heap.size ≤ k ∧ ∃ cs, W.heap[k]? = some (.cells cs 64 (0, 0)) := fun k hk => by
    obtain ⟨h1, _, h3⟩ := Row.typedQ h.outW hk
    exact ⟨h1, h3⟩
  have notS : ∀ {j : Nat} {cs : Array Value} {t : TypeId} {fr : Nat × Nat}, W.heap[j]? = some (.cells cs t fr) → t ≠ 54 → t ≠ 64 → ¬ (j = q ∨ vW.ownBlock = some j) := fun {j cs t fr} hj h1 h2 => by
    rintro (rfl | e)
    · rw [h.bag] at hj; cases hj; exact h1 rfl
    · obtain ⟨_, cs', h3⟩ := own j e
      rw [h3] at hj; cases hj; exact h2 rfl
  refine ⟨ho.from h.bel (fun k hk => by
      rcases hk with rfl | e
      · exact g.lq.1
      · exact Nat.le_trans g.lv (own k e).1), Nat.le_trans h.size ho.size, fun s hs => ?_, fun s hs => ho.blk (h.ref s hs) (notS (h.ref s hs) (by decide) (by decide)), ho.blk h.arrA (notS h.arrA (by decide) (by decide)), ho.blk h.arrB (notS h.arrB (by decide) (by decide)), hb, ?_, ?_, ?_, ?_⟩
  · refine (h.brd s hs).onlyN ho (notS (h.brd s hs).cells (by decide) (by decide)) ?_
    rintro (e | e)
    · have h3 := h.bag
      rw [← e] at h3
      exact (h.brd s hs).isMap h3
    · obtain ⟨_, cs', h3⟩ := own _ e
      exact (h.brd s hs).isMap h3
  · have h1 := h.rows.onlyN ho fun it hi k hk => by
      obtain ⟨_, _, cs, h3⟩ := h.rows.typed hi hk
      exact notS h3 (by decide) (by decide)
    rw [List.append_assoc]; exact h1
  · have h1 := h.fired.onlyN ho fun it hi k hk => by
      obtain ⟨_, _, cs, h3⟩ := h.fired.typed hi hk
      exact notS h3 (by decide) (by decide)
    exact h1
  · exact hrow
  · refine h.outF.onlyN ho fun k hk => ?_
    obtain ⟨_, _, cs, h3⟩ := Row.typedQ h.outF hk
    exact notS h3 (by decide) (by decide)
theorem Sys.turnF {v v' : Value} {T : List S77} (g : Geo w0 V0 c b r q aA aB) (h : Sys w0 V0 c b r q aA aB P came x L LW pw LF ((v, T) :: pf) vW vF W) (ho : Only (fun k => k = q ∨ vF.ownBlock = some k) W W') (hb : W'.heap[q]? = some (.cells (bagCells vW v') 54 (0, 0)))
    (hrow : Row encS 1 V0.heap.size 63 W' v' ((LF ++ [(v, T)]).map Prod.fst)) : Sys w0 V0 c b r q aA aB P came x L LW pw (LF ++ [(v, T)]) pf vW v' W' := by
  have own : ∀ k, vF.ownBlock = some k → V0.heap.size ≤ k ∧ ∃ cs, W.heap[k]? = some (.cells cs 63 (0, 0)) := fun k hk => by
    obtain ⟨h1, _, h3⟩ := Row.typedQ h.outF hk
    exact ⟨h1, h3⟩
  have notS : ∀ {j : Nat} {cs : Array Value} {t : TypeId} {fr : Nat × Nat}, W.heap[j]? = some (.cells cs t fr) → t ≠ 54 → t ≠ 63 → ¬ (j = q ∨ vF.ownBlock = some j) := fun {j cs t fr} hj h1 h2 => by
    rintro (rfl | e)
    · rw [h.bag] at hj; cases hj; exact h1 rfl
    · obtain ⟨_, cs', h3⟩ := own j e
      rw [h3] at hj; cases hj; exact h2 rfl
  refine ⟨ho.from h.bel (fun k hk => by
      rcases hk with rfl | e
      · exact g.lq.1
      · exact Nat.le_trans g.lv (own k e).1), Nat.le_trans h.size ho.size, fun s hs => ?_, fun s hs => ho.blk (h.ref s hs) (notS (h.ref s hs) (by decide) (by decide)), ho.blk h.arrA (notS h.arrA (by decide) (by decide)), ho.blk h.arrB (notS h.arrB (by decide) (by decide)), hb, ?_, ?_, ?_, ?_⟩
  · refine (h.brd s hs).onlyN ho (notS (h.brd s hs).cells (by decide) (by decide)) ?_
    rintro (e | e)
    · have h3 := h.bag
      rw [← e] at h3
      exact (h.brd s hs).isMap h3
    · obtain ⟨_, cs', h3⟩ := own _ e
      exact (h.brd s hs).isMap h3
  · have h1 := h.rows.onlyN ho fun it hi k hk => by
      obtain ⟨_, _, cs, h3⟩ := h.rows.typed hi hk
      exact notS h3 (by decide) (by decide)
    exact h1
  · have h1 := h.fired.onlyN ho fun it hi k hk => by
      obtain ⟨_, _, cs, h3⟩ := h.fired.typed hi hk
      exact notS h3 (by decide) (by decide)
    rw [List.append_assoc]; exact h1
  · refine h.outW.onlyN ho fun k hk => ?_
    obtain ⟨_, _, cs, h3⟩ := Row.typedQ h.outW hk
    exact notS h3 (by decide) (by decide)
  · exact hrow
end
theorem end0 {P : Program} {fn : Func} {R : Ending → World → Prop} {a : Act} {w : World} (hr : fn.results = #[]) (hd : a.defers = []) (hR : R (.returned (.tuple #[])) w) : bodyPost P fn R .normal a w :=
  bodyPost_end (results_none hr _ _ _) hd hR
set_option maxRecDepth 100000 in
set_option maxHeartbeats 8000000 in
theorem addW_calls {w0 V0 : World} {c b r : Nat → Nat} {q aA aB : Nat} {P : Nat → WN} {came : Nat → Int} {x : Nat → Value} {L : Nat → List S57} {LW pw : Lists S57} {LF pf : Lists S77} {vW vF : Value} {W : World} {v : Value} {T : List S57} (g : Geo w0 V0 c b r q aA aB) (h : Sys w0 V0 c b r q aA aB P came x L LW ((v, T) :: pw) LF pf vW vF W) (hl : LW.length ≤ 600) :
    Calls Tryz.prog 12 #[.pointer (some ⟨q, 0, none⟩), v] W fun e w' => e = .returned (.tuple #[]) ∧ ∃ LW' vW', Sys w0 V0 c b r q aA aB P came x L LW' pw LF pf vW' vF w' ∧ LW'.length ≤ 600 ∧ (∀ y ∈ LW', y ∈ LW ∨ y = (v, T)) ∧ Only (fun k => k = q ∨ vW.ownBlock = some k) W w' := by
  have hout := h.outW
  obtain ⟨A5, c5, h5, h5c⟩ := Bag.Row.slice hout
  rw [List.length_map] at h5 h5c
  subst h5
  obtain ⟨A, nv, cv, hv⟩ : ∃ A n c, v = .slice A n c := by
    have hm : Bag.start v T ∈ (rowsL x L (LW ++ (v, T) :: pw)).map fun y => Bag.start y.1 y.2 := List.mem_map.2 ⟨(v, T), by simp, rfl⟩
    obtain ⟨j, hj, e⟩ := List.getElem_of_mem hm
    have h1 := (h.rows.ok j hj).rv
    rw [e] at h1
    obtain ⟨A, c, h2, _⟩ := Bag.Row.slice h1
    exact ⟨A, _, c, h2⟩
  subst hv
  obtain ⟨n, hnn⟩ : ∃ n, LW.length = n := ⟨_, rfl⟩
  have HN := Lib.hid hnn
  rw [hnn] at h hl h5c hout
  have o : W.cell? ⟨q, 15, none⟩ = some (.slice A5 n c5) := cell_rowK h.bag rfl
  have HS := Lib.hid h
  by_cases c1 : n < 600
  · have q1 : decide ((n : Int) < 600) = true := decide_eq_true (by omega)
    obtain ⟨W9, hW9⟩ : ∃ V, W.alloc (.cells #[.slice A nv cv] 64) = V := ⟨_, rfl⟩
    have hB9 : Below W.heap.size W W9 := by rw [← hW9]; exact below_alloc (Below.refl _ _) _
    have hz9 : W9.heap[W.heap.size]? = some (.cells #[.slice A nv cv] 64 (0, 0)) := by rw [← hW9]; exact World.alloc_heap_new W _
    have hRow9 := hout.of_below hB9
    have hown : W9.ownsRow V0.heap.size 64 1 (.slice A5 n c5) n (LW.map Prod.fst) := by
      have := hRow9
      unfold Row at this
      rw [encS_flat, List.length_map, hnn] at this; exact this
    have hszz : V0.heap.size ≤ W9.heap.size := Nat.le_trans h.size hB9.size
    have hbag9 := blkK h.bag hB9
    have hqn : ∀ k, (Value.slice A5 n c5).ownBlock = some k → k ≠ q := fun k hk e => by
      obtain ⟨_, _, cs, h3⟩ := Row.typedQ hout hk
      rw [e, h.bag] at h3
      have h4 := (Obj.cells.inj (Option.some.inj h3)).2.1
      exact absurd h4 (by decide)
    have HO := Lib.hid hown
    have HZ9 := Lib.hid hz9
    have HB9 := Lib.hid hB9
    have HQ := Lib.hid (And.intro hqn hbag9)
    have HSZ := Lib.hid hszz
    obtain ⟨i0, hi0, hzz⟩ := Option.map_eq_some_iff.1 Bag.info2Watches
    simp only [Prod.mk.injEq] at hzz
    obtain ⟨hz0, hz1, hz2⟩ := hzz
    have HI := Lib.hid (And.intro hi0 (And.intro hz0 (And.intro hz1 hz2)))
    clear hB9 hz9 hRow9 hown h hi0 hz0 hz1 hz2 hszz hnn hout hbag9 hqn
    go_enter Tryz.func12, Tryz.ntmps12
    go_wp2_with (first | (at_builtin; refine wpList_app rfl (.tmp 14) (.tmp 16) 47 rfl 64 i0 _ 1 24 Tryz.underlying47 HI.out.1 HI.out.2.1 HI.out.2.2.1 HI.out.2.2.2 rfl (by decide) V0.heap.size (.slice A5 n c5) n (LW.map Prod.fst) rfl HO.out ⟨W.heap.size, 0, none⟩ 1 [.slice A nv cv] rfl rfl (World.news_of_block (cs := #[.slice A nv cv]) (t := 64) (fr := (0, 0)) HZ9.out) (by simp [Value.oneCell']) (by unfold maxLen; omega) (by omega) HSZ.out ?_; intro g7 cap7 w3 hown2 hA; have hq3 := appT_blk hA HQ.out.2 (fun e => HQ.out.1 _ e rfl); have s0 : w3.cell? ⟨q, 15, none⟩ = some (.slice A5 n c5) := (cell_rowK hq3 rfl); have f0 : w3.frozen? ⟨q, 15, none⟩ = false := frozen_rowK hq3; have HQ3 := Lib.hid hq3; have HA := Lib.hid hA; have HO2 := Lib.hid hown2; clear hown2 hA hq3))
    refine end0 rfl rfl ?_
    have hG := Grew.of_app HA.out
    have ho3 : Only (fun k => k = q ∨ (Value.slice A5 n c5).ownBlock = some k) W w3 := hG.only (Only.of_below HB9.out) (fun k hk => .inl (.inr hk))
    have ho := ho3.setCell (p := ⟨q, 15, none⟩) (.inl (.inl rfl)) (.slice (some ⟨g7, 0, none⟩) (n + 1) cap7)
    have hset : Only (fun k => k = q) w3 (w3.setCell ⟨q, 15, none⟩ (.slice (some ⟨g7, 0, none⟩) (n + 1) cap7)) := (Only.refl (fun k => k = q) w3).setCell (p := ⟨q, 15, none⟩) (.inl rfl) _
    have hb : (w3.setCell ⟨q, 15, none⟩ (.slice (some ⟨g7, 0, none⟩) (n + 1) cap7)).heap[q]? = some (.cells (bagCells (.slice (some ⟨g7, 0, none⟩) (n + 1) cap7) vF) 54 (0, 0)) := heap_setCell_same w3 q 15 _ _ _ HQ3.out
    have hrow : Row encS 1 V0.heap.size 64 w3 (.slice (some ⟨g7, 0, none⟩) (n + 1) cap7) ((LW ++ [(Value.slice A nv cv, T)]).map Prod.fst) := by
      rw [List.map_append]
      exact row_of_own HO2.out (by simp [HN.out])
    have hrow2 := hrow.onlyN hset (fun k hk e => by have := (hrow.lt hk).1; have := g.lq.2; omega)
    refine ⟨rfl, _, _, HS.out.turnW g ho hb hrow2, by simp [HN.out]; omega, fun y hy => ?_, by rw [HN.out]; exact ho⟩
    rcases List.mem_append.1 hy with h1 | h1
    · exact .inl h1
    · exact .inr (List.mem_singleton.1 h1)
  · have q1 : decide ((n : Int) < 600) = false := decide_eq_false (by omega)
    clear h hout hnn
    go_enter Tryz.func12, Tryz.ntmps12
    go_wp2
    refine end0 rfl rfl ?_
    exact ⟨rfl, _, _, HS.out.dropW, by rw [HN.out]; omega, fun y hy => .inl hy, Only.refl _ _⟩
set_option maxRecDepth 100000 in
set_option maxHeartbeats 8000000 in
theorem addF_calls {w0 V0 : World} {c b r : Nat → Nat} {q aA aB : Nat} {P : Nat → WN} {came : Nat → Int} {x : Nat → Value} {L : Nat → List S57} {LW pw : Lists S57} {LF pf : Lists S77} {vW vF : Value} {W : World} {v : Value} {T : List S77} (g : Geo w0 V0 c b r q aA aB) (h : Sys w0 V0 c b r q aA aB P came x L LW pw LF ((v, T) :: pf) vW vF W) (hl : LF.length ≤ 600) :
    Calls Tryz.prog 11 #[.pointer (some ⟨q, 0, none⟩), v] W fun e w' => e = .returned (.tuple #[]) ∧ ∃ LF' vF', Sys w0 V0 c b r q aA aB P came x L LW pw LF' pf vW vF' w' ∧ LF'.length ≤ 600 ∧ (∀ y ∈ LF', y ∈ LF ∨ y = (v, T)) ∧ Only (fun k => k = q ∨ vF.ownBlock = some k) W w' := by
  have hout := h.outF
  obtain ⟨A5, c5, h5, h5c⟩ := Bag.Row.slice hout
  rw [List.length_map] at h5 h5c
  subst h5
  obtain ⟨A, nv, cv, hv⟩ : ∃ A n c, v = .slice A n c := by
    have hm : Bag.start v T ∈ (LF ++ (v, T) :: pf).map fun y => Bag.start y.1 y.2 := List.mem_map.2 ⟨(v, T), by simp, rfl⟩
    obtain ⟨j, hj, e⟩ := List.getElem_of_mem hm
    have h1 := (h.fired.ok j hj).rv
    rw [e] at h1
    obtain ⟨A, c, h2, _⟩ := Bag.Row.slice h1
    exact ⟨A, _, c, h2⟩
  subst hv
  obtain ⟨n, hnn⟩ : ∃ n, LF.length = n := ⟨_, rfl⟩
  have HN := Lib.hid hnn
  rw [hnn] at h hl h5c hout
  have o : W.cell? ⟨q, 16, none⟩ = some (.slice A5 n c5) := cell_rowK h.bag rfl
  have HS := Lib.hid h
  by_cases c1 : n < 600
  · have q1 : decide ((n : Int) < 600) = true := decide_eq_true (by omega)
    obtain ⟨W9, hW9⟩ : ∃ V, W.alloc (.cells #[.slice A nv cv] 63) = V := ⟨_, rfl⟩
    have hB9 : Below W.heap.size W W9 := by rw [← hW9]; exact below_alloc (Below.refl _ _) _
    have hz9 : W9.heap[W.heap.size]? = some (.cells #[.slice A nv cv] 63 (0, 0)) := by rw [← hW9]; exact World.alloc_heap_new W _
    have hRow9 := hout.of_below hB9
    have hown : W9.ownsRow V0.heap.size 63 1 (.slice A5 n c5) n (LF.map Prod.fst) := by
      have := hRow9
      unfold Row at this
      rw [encS_flat, List.length_map, hnn] at this; exact this
    have hszz : V0.heap.size ≤ W9.heap.size := Nat.le_trans h.size hB9.size
    have hbag9 := blkK h.bag hB9
    have hqn : ∀ k, (Value.slice A5 n c5).ownBlock = some k → k ≠ q := fun k hk e => by
      obtain ⟨_, _, cs, h3⟩ := Row.typedQ hout hk
      rw [e, h.bag] at h3
      have h4 := (Obj.cells.inj (Option.some.inj h3)).2.1
      exact absurd h4 (by decide)
    have HO := Lib.hid hown
    have HZ9 := Lib.hid hz9
    have HB9 := Lib.hid hB9
    have HQ := Lib.hid (And.intro hqn hbag9)
    have HSZ := Lib.hid hszz
    obtain ⟨i0, hi0, hzz⟩ := Option.map_eq_some_iff.1 Bag.info2Fired
    simp only [Prod.mk.injEq] at hzz
    obtain ⟨hz0, hz1, hz2⟩ := hzz
    have HI := Lib.hid (And.intro hi0 (And.intro hz0 (And.intro hz1 hz2)))
    clear hB9 hz9 hRow9 hown h hi0 hz0 hz1 hz2 hszz hnn hout hbag9 hqn
    go_enter Tryz.func11, Tryz.ntmps11
    go_wp2_with (first | (at_builtin; refine wpList_app rfl (.tmp 14) (.tmp 16) 48 rfl 63 i0 _ 1 24 Tryz.underlying48 HI.out.1 HI.out.2.1 HI.out.2.2.1 HI.out.2.2.2 rfl (by decide) V0.heap.size (.slice A5 n c5) n (LF.map Prod.fst) rfl HO.out ⟨W.heap.size, 0, none⟩ 1 [.slice A nv cv] rfl rfl (World.news_of_block (cs := #[.slice A nv cv]) (t := 63) (fr := (0, 0)) HZ9.out) (by simp [Value.oneCell']) (by unfold maxLen; omega) (by omega) HSZ.out ?_; intro g7 cap7 w3 hown2 hA; have hq3 := appT_blk hA HQ.out.2 (fun e => HQ.out.1 _ e rfl); have s0 : w3.cell? ⟨q, 16, none⟩ = some (.slice A5 n c5) := (cell_rowK hq3 rfl); have f0 : w3.frozen? ⟨q, 16, none⟩ = false := frozen_rowK hq3; have HQ3 := Lib.hid hq3; have HA := Lib.hid hA; have HO2 := Lib.hid hown2; clear hown2 hA hq3))
    refine end0 rfl rfl ?_
    have hG := Grew.of_app HA.out
    have ho3 : Only (fun k => k = q ∨ (Value.slice A5 n c5).ownBlock = some k) W w3 := hG.only (Only.of_below HB9.out) (fun k hk => .inl (.inr hk))
    have ho := ho3.setCell (p := ⟨q, 16, none⟩) (.inl (.inl rfl)) (.slice (some ⟨g7, 0, none⟩) (n + 1) cap7)
    have hset : Only (fun k => k = q) w3 (w3.setCell ⟨q, 16, none⟩ (.slice (some ⟨g7, 0, none⟩) (n + 1) cap7)) := (Only.refl (fun k => k = q) w3).setCell (p := ⟨q, 16, none⟩) (.inl rfl) _
    have hb : (w3.setCell ⟨q, 16, none⟩ (.slice (some ⟨g7, 0, none⟩) (n + 1) cap7)).heap[q]? = some (.cells (bagCells vW (.slice (some ⟨g7, 0, none⟩) (n + 1) cap7)) 54 (0, 0)) := heap_setCell_same w3 q 16 _ _ _ HQ3.out
    have hrow : Row encS 1 V0.heap.size 63 w3 (.slice (some ⟨g7, 0, none⟩) (n + 1) cap7) ((LF ++ [(Value.slice A nv cv, T)]).map Prod.fst) := by
      rw [List.map_append]
      exact row_of_own HO2.out (by simp [HN.out])
    have hrow2 := hrow.onlyN hset (fun k hk e => by have := (hrow.lt hk).1; have := g.lq.2; omega)
    refine ⟨rfl, _, _, HS.out.turnF g ho hb hrow2, by simp [HN.out]; omega, fun y hy => ?_, by rw [HN.out]; exact ho⟩
    rcases List.mem_append.1 hy with h1 | h1
    · exact .inl h1
    · exact .inr (List.mem_singleton.1 h1)
  · have q1 : decide ((n : Int) < 600) = false := decide_eq_false (by omega)
    clear h hout hnn
    go_enter Tryz.func11, Tryz.ntmps11
    go_wp2
    refine end0 rfl rfl ?_
    exact ⟨rfl, _, _, HS.out.dropF, by rw [HN.out]; omega, fun y hy => .inl hy, Only.refl _ _⟩
/-! THE BAG IS APART -/
def cutW (W : World) (n : Nat) : World := { W with heap := W.heap.extract 0 n }
theorem cutW_size {W : World} {n : Nat} (h : n ≤ W.heap.size) : (cutW W n).heap.size = n := by simp [cutW]; omega
theorem cutW_below {W : World} {n : Nat} (h : n ≤ W.heap.size) : Below (cutW W n).heap.size (cutW W n) W := by
  refine ⟨rfl, rfl, rfl, by rw [cutW_size h]; exact h, fun k hk => ?_⟩
  rw [cutW_size h] at hk
  simp only [cutW]
  rw [Array.getElem?_extract, if_pos (by omega)]
  simp
theorem outerQ {α : Type} {W : World} {base : Nat} {t : TypeId} {v : Value} {M : Lists α} (h : Row encS 1 base t W v (M.map Prod.fst)) :
    (v = .slice none 0 0 ∧ M = []) ∨ ∃ p c cs, v = .slice (some ⟨p, 0, none⟩) M.length c ∧ M.length ≤ c ∧ W.heap[p]? = some (.cells cs t (0, 0)) ∧ ∀ j (hj : j < M.length), cs[j]? = some M[j].1 := by
  have hlen : (M.map Prod.fst).length = M.length := by simp
  rcases h.shape with ⟨h1, h2⟩ | ⟨p, c, h1, h2, _, cs, h3⟩
  · exact .inl ⟨h1, by simpa using h2⟩
  · rw [hlen] at h1 h2
    refine .inr ⟨p, c, cs, h1, h2, h3, fun j hj => ?_⟩
    subst h1
    have h4 : Row encS 1 base t W (.slice (some ⟨p, 0, none⟩) (M.map Prod.fst).length c) (M.map Prod.fst) := by rw [hlen]; exact h
    have h5 := Bag.Row.cell (enc := encS) (size := 1) (fun _ => rfl) h4 (k := j) (by rw [hlen]; exact hj) (j := 0) (u := M[j].1) (by rw [List.getElem_map]; rfl)
    have h6 := cell_of_row W p (j * 1 + 0) _ _ _ h3
    rw [h6] at h5
    rw [Nat.mul_one] at h5
    exact h5
theorem apartW_any {W : World} {base : Nat} {v : Value} {M : Lists S57} (h : Row encS 1 base 64 W v (M.map Prod.fst)) (hbag : BagI encW 3 base 57 W (M.map fun y => Bag.start y.1 y.2)) (hl : M.length ≤ 1000) (hsm : ∀ y ∈ M, y.2.length ≤ 4294967296) (hb : base ≤ W.heap.size) :
    Calls Tryz.prog 44 #[v] W fun e w' => e = .returned (.bool true) ∧ Only (OwnOf M) W w' := by
  rcases outerQ h with ⟨rfl, rfl⟩ | ⟨p, c, cs, rfl, h2, h3, h4⟩
  · exact (Bag.apartWatches_nil W).mono fun e w' ⟨he, hB⟩ => ⟨he, Only.of_below hB⟩
  · have hbag' : Bag.BagWatches (cutW W base) W (M.map fun y => Bag.start y.1 y.2) := by
      unfold Bag.BagWatches
      rw [cutW_size hb]
      exact hbag
    exact (Bag.apartWatches_calls (cutW W base) W p c M cs (cutW_below hb) hl h2 h3 h4 (fun j hj => hsm _ (List.getElem_mem hj)) hbag').mono fun e w' ⟨he, _, ho⟩ => ⟨he, ho⟩
theorem apartF_any {W : World} {base : Nat} {v : Value} {M : Lists S77} (h : Row encS 1 base 63 W v (M.map Prod.fst)) (hbag : BagI encFd 5 base 77 W (M.map fun y => Bag.start y.1 y.2)) (hl : M.length ≤ 1000) (hsm : ∀ y ∈ M, y.2.length ≤ 4294967296) (hb : base ≤ W.heap.size) :
    Calls Tryz.prog 45 #[v] W fun e w' => e = .returned (.bool true) ∧ Only (OwnOf M) W w' := by
  rcases outerQ h with ⟨rfl, rfl⟩ | ⟨p, c, cs, rfl, h2, h3, h4⟩
  · exact (Bag.apartFired_nil W).mono fun e w' ⟨he, hB⟩ => ⟨he, Only.of_below hB⟩
  · have hbag' : Bag.BagFired (cutW W base) W (M.map fun y => Bag.start y.1 y.2) := by
      unfold Bag.BagFired
      rw [cutW_size hb]
      exact hbag
    exact (Bag.apartFired_calls (cutW W base) W p c M cs (cutW_below hb) hl h2 h3 h4 (fun j hj => hsm _ (List.getElem_mem hj)) hbag').mono fun e w' ⟨he, _, ho⟩ => ⟨he, ho⟩
set_option maxRecDepth 100000 in
set_option maxHeartbeats 8000000 in
theorem bag_apart {w0 V0 : World} {c b r : Nat → Nat} {q aA aB : Nat} {P : Nat → WN} {came : Nat → Int} {x : Nat → Value} {L : Nat → List S57} {LW : Lists S57} {LF : Lists S77} {vW vF : Value} {W : World} (h : Sys w0 V0 c b r q aA aB P came x L LW [] LF [] vW vF W)
    (hl1 : LW.length ≤ 600) (hl2 : LF.length ≤ 600) (hs1 : ∀ y ∈ LW, y.2.length ≤ 64) (hs2 : ∀ y ∈ LF, y.2.length ≤ 64) :
    Calls Tryz.prog 16 #[.pointer (some ⟨q, 0, none⟩)] W fun e w' => e = .returned (.bool true) ∧ Only (fun k => OwnOf LW k ∨ OwnOf LF k) W w' := by
  have hrows : BagI encW 3 V0.heap.size 57 W (LW.map fun y => Bag.start y.1 y.2) := h.rows.sub (by rw [List.append_nil]; exact ((List.sublist_cons_self _ _).trans (List.sublist_cons_self _ _)).map _)
  have hfired : BagI encFd 5 V0.heap.size 77 W (LF.map fun y => Bag.start y.1 y.2) := by have h1 := h.fired; rw [List.append_nil] at h1; exact h1
  have HR := Lib.hid (And.intro hrows (And.intro hfired (And.intro h.outW (And.intro h.outF (And.intro h.size h.bag)))))
  have HL := Lib.hid (And.intro hl1 (And.intro hl2 (And.intro hs1 hs2)))
  obtain ⟨A5, c5, h5, _⟩ := Bag.Row.slice h.outW
  obtain ⟨A6, c6, h6, _⟩ := Bag.Row.slice h.outF
  rw [List.length_map] at h5 h6
  obtain ⟨n5, hn5⟩ : ∃ n, LW.length = n := ⟨_, rfl⟩
  obtain ⟨n6, hn6⟩ : ∃ n, LF.length = n := ⟨_, rfl⟩
  rw [hn5] at h5
  rw [hn6] at h6
  subst h5
  subst h6
  have HB0 := Lib.hid (Below.refl W.heap.size W)
  clear h hrows hfired hl1 hl2 hs1 hs2 hn5 hn6
  go_enter Tryz.func16, Tryz.ntmps16
  have o : W.cell? ⟨q, 0, none⟩ = some (.slice none 0 0) := cell_rowK (blkK HR.out.2.2.2.2.2 HB0.out) rfl
  have K := Lib.hid (Bag.apartBytes_nil W)
  go_wp2_with fail
  refine K.out.mono ?_
  rintro e w1 ⟨rfl, hB⟩
  have HB1 := Lib.hid (below_step HB0.out hB)
  clear o K hB HB0
  have o : w1.cell? ⟨q, 1, none⟩ = some (.slice none 0 0) := cell_rowK (blkK HR.out.2.2.2.2.2 HB1.out) rfl
  have K := Lib.hid (Bag.apartInts_nil w1)
  go_wp2_with fail
  refine K.out.mono ?_
  rintro e w2 ⟨rfl, hB⟩
  have HB2 := Lib.hid (below_step HB1.out hB)
  clear o K hB HB1
  have o : w2.cell? ⟨q, 2, none⟩ = some (.slice none 0 0) := cell_rowK (blkK HR.out.2.2.2.2.2 HB2.out) rfl
  have K := Lib.hid (Bag.apartTexts_nil w2)
  go_wp2_with fail
  refine K.out.mono ?_
  rintro e w3 ⟨rfl, hB⟩
  have HB3 := Lib.hid (below_step HB2.out hB)
  clear o K hB HB2
  have o : w3.cell? ⟨q, 3, none⟩ = some (.slice none 0 0) := cell_rowK (blkK HR.out.2.2.2.2.2 HB3.out) rfl
  have K := Lib.hid (Bag.apartPieces_nil w3)
  go_wp2_with fail
  refine K.out.mono ?_
  rintro e w4 ⟨rfl, hB⟩
  have HB4 := Lib.hid (below_step HB3.out hB)
  clear o K hB HB3
  have o : w4.cell? ⟨q, 4, none⟩ = some (.slice none 0 0) := cell_rowK (blkK HR.out.2.2.2.2.2 HB4.out) rfl
  have K := Lib.hid (Bag.apartIds_nil w4)
  go_wp2_with fail
  refine K.out.mono ?_
  rintro e w5 ⟨rfl, hB⟩
  have HB5 := Lib.hid (below_step HB4.out hB)
  clear o K hB HB4
  have o : w5.cell? ⟨q, 5, none⟩ = some (.slice none 0 0) := cell_rowK (blkK HR.out.2.2.2.2.2 HB5.out) rfl
  have K := Lib.hid (Bag.apartAcl_nil w5)
  go_wp2_with fail
  refine K.out.mono ?_
  rintro e w6 ⟨rfl, hB⟩
  have HB6 := Lib.hid (below_step HB5.out hB)
  clear o K hB HB5
  have o : w6.cell? ⟨q, 6, none⟩ = some (.slice none 0 0) := cell_rowK (blkK HR.out.2.2.2.2.2 HB6.out) rfl
  have K := Lib.hid (Bag.apartRequests_nil w6)
  go_wp2_with fail
  refine K.out.mono ?_
  rintro e w7 ⟨rfl, hB⟩
  have HB7 := Lib.hid (below_step HB6.out hB)
  clear o K hB HB6
  have o : w7.cell? ⟨q, 7, none⟩ = some (.slice none 0 0) := cell_rowK (blkK HR.out.2.2.2.2.2 HB7.out) rfl
  have K := Lib.hid (Bag.apartTxns_nil w7)
  go_wp2_with fail
  refine K.out.mono ?_
  rintro e w8 ⟨rfl, hB⟩
  have HB8 := Lib.hid (below_step HB7.out hB)
  clear o K hB HB7
  have o : w8.cell? ⟨q, 8, none⟩ = some (.slice none 0 0) := cell_rowK (blkK HR.out.2.2.2.2.2 HB8.out) rfl
  have K := Lib.hid (Bag.apartResults_nil w8)
  go_wp2_with fail
  refine K.out.mono ?_
  rintro e w9 ⟨rfl, hB⟩
  have HB9 := Lib.hid (below_step HB8.out hB)
  clear o K hB HB8
  have o : w9.cell? ⟨q, 9, none⟩ = some (.slice none 0 0) := cell_rowK (blkK HR.out.2.2.2.2.2 HB9.out) rfl
  have K := Lib.hid (Bag.apartNodes_nil w9)
  go_wp2_with fail
  refine K.out.mono ?_
  rintro e w10 ⟨rfl, hB⟩
  have HB10 := Lib.hid (below_step HB9.out hB)
  clear o K hB HB9
  have o : w10.cell? ⟨q, 10, none⟩ = some (.slice none 0 0) := cell_rowK (blkK HR.out.2.2.2.2.2 HB10.out) rfl
  have K := Lib.hid (Bag.apartSessions_nil w10)
  go_wp2_with fail
  refine K.out.mono ?_
  rintro e w11 ⟨rfl, hB⟩
  have HB11 := Lib.hid (below_step HB10.out hB)
  clear o K hB HB10
  have o : w11.cell? ⟨q, 11, none⟩ = some (.slice none 0 0) := cell_rowK (blkK HR.out.2.2.2.2.2 HB11.out) rfl
  have K := Lib.hid (Bag.apartChanges_nil w11)
  go_wp2_with fail
  refine K.out.mono ?_
  rintro e w12 ⟨rfl, hB⟩
  have HB12 := Lib.hid (below_step HB11.out hB)
  clear o K hB HB11
  have o : w12.cell? ⟨q, 12, none⟩ = some (.slice none 0 0) := cell_rowK (blkK HR.out.2.2.2.2.2 HB12.out) rfl
  have K := Lib.hid (Bag.apartFiles_nil w12)
  go_wp2_with fail
  refine K.out.mono ?_
  rintro e w13 ⟨rfl, hB⟩
  have HB13 := Lib.hid (below_step HB12.out hB)
  clear o K hB HB12
  have o : w13.cell? ⟨q, 13, none⟩ = some (.slice none 0 0) := cell_rowK (blkK HR.out.2.2.2.2.2 HB13.out) rfl
  have K := Lib.hid (Bag.apartPackets_nil w13)
  go_wp2_with fail
  refine K.out.mono ?_
  rintro e w14 ⟨rfl, hB⟩
  have HB14 := Lib.hid (below_step HB13.out hB)
  clear o K hB HB13
  have o : w14.cell? ⟨q, 14, none⟩ = some (.slice none 0 0) := cell_rowK (blkK HR.out.2.2.2.2.2 HB14.out) rfl
  have K := Lib.hid (Bag.apartMessages_nil w14)
  go_wp2_with fail
  refine K.out.mono ?_
  rintro e w15 ⟨rfl, hB⟩
  have HB15 := Lib.hid (below_step HB14.out hB)
  clear o K hB HB14
  have o : w15.cell? ⟨q, 15, none⟩ = some (.slice A5 n5 c5) := cell_rowK (blkK HR.out.2.2.2.2.2 HB15.out) rfl
  have K := Lib.hid (apartW_any (HR.out.2.2.1.of_below HB15.out) (HR.out.1.below HB15.out) (Nat.le_trans HL.out.1 (by omega)) (fun y hy => Nat.le_trans (HL.out.2.2.1 y hy) (by omega)) (Nat.le_trans HR.out.2.2.2.2.1 HB15.out.size))
  go_wp2_with fail
  refine K.out.mono ?_
  rintro e w16 ⟨rfl, ho⟩
  have HO16 := Lib.hid ((Only.of_below (S := fun k => OwnOf LW k ∨ OwnOf LF k) HB15.out).trans ho (fun _ _ e => .inl e))
  have HOW := Lib.hid ((Only.of_below (S := OwnOf LW) HB15.out).trans ho (fun _ _ e => e))
  have not1 : ∀ {j : Nat} {cs : Array Value} {t : TypeId} {fr : Nat × Nat}, W.heap[j]? = some (.cells cs t fr) → t ≠ 57 → ¬ OwnOf LW j := fun {j cs t fr} hj h1 h2 => by
    obtain ⟨_, _, cs', h3⟩ := own_is HR.out.1 h2
    rw [hj] at h3; cases h3; exact h1 rfl
  have HN1 := Lib.hid (And.intro (HR.out.2.1.onlyN HOW.out fun it hi k hk => by obtain ⟨_, _, cs, h3⟩ := HR.out.2.1.typed hi hk; exact not1 h3 (by decide)) (And.intro (HR.out.2.2.2.1.onlyN HOW.out fun k hk => by obtain ⟨_, _, cs, h3⟩ := Row.typedQ HR.out.2.2.2.1 hk; exact not1 h3 (by decide)) (HOW.out.blk HR.out.2.2.2.2.2 (not1 HR.out.2.2.2.2.2 (by decide)))))
  clear o K ho HB15 not1
  have o : w16.cell? ⟨q, 16, none⟩ = some (.slice A6 n6 c6) := cell_rowK HN1.out.2.2 rfl
  have K := Lib.hid (apartF_any HN1.out.2.1 HN1.out.1 (Nat.le_trans HL.out.2.1 (by omega)) (fun y hy => Nat.le_trans (HL.out.2.2.2 y hy) (by omega)) (Nat.le_trans HR.out.2.2.2.2.1 HOW.out.size))
  go_wp2_with fail
  refine K.out.mono ?_
  rintro e w17 ⟨rfl, ho⟩
  have HO17 := Lib.hid (HO16.out.trans ho (fun _ _ e => .inr e))
  have HQ17 := Lib.hid (ho.blk HN1.out.2.2 (fun e => by obtain ⟨_, _, cs, h3⟩ := own_is HN1.out.1 e; rw [HN1.out.2.2] at h3; have h4 := (Obj.cells.inj (Option.some.inj h3)).2.1; exact absurd h4 (by decide)))
  clear o K ho HO16 HOW HN1
  have o : w17.cell? ⟨q, 17, none⟩ = some (.slice none 0 0) := cell_rowK HQ17.out rfl
  have K := Lib.hid (Bag.apartFacts_nil w17)
  go_wp2_with fail
  refine K.out.mono ?_
  rintro e w18 ⟨rfl, hB⟩
  have HO18 := Lib.hid (HO17.out.then_below hB)
  have HQ18 := Lib.hid (blkK HQ17.out hB)
  clear o K hB HO17 HQ17
  have o : w18.cell? ⟨q, 18, none⟩ = some (.slice none 0 0) := cell_rowK HQ18.out rfl
  have K := Lib.hid (Bag.apartSends_nil w18)
  go_wp2_with fail
  refine K.out.mono ?_
  rintro e w19 ⟨rfl, hB⟩
  have HO19 := Lib.hid (HO18.out.then_below hB)
  have HQ19 := Lib.hid (blkK HQ18.out hB)
  clear o K hB HO18 HQ18
  have o : w19.cell? ⟨q, 19, none⟩ = some (.slice none 0 0) := cell_rowK HQ19.out rfl
  have K := Lib.hid (Bag.apartEvents_nil w19)
  go_wp2_with fail
  refine K.out.mono ?_
  rintro e w20 ⟨rfl, hB⟩
  have HO20 := Lib.hid (HO19.out.then_below hB)
  have HQ20 := Lib.hid (blkK HQ19.out hB)
  clear o K hB HO19 HQ19
  have o : w20.cell? ⟨q, 20, none⟩ = some (.slice none 0 0) := cell_rowK HQ20.out rfl
  have K := Lib.hid (Bag.apartFactss_nil w20)
  go_wp2_with fail
  refine K.out.mono ?_
  rintro e w21 ⟨rfl, hB⟩
  have HO21 := Lib.hid (HO20.out.then_below hB)
  have HQ21 := Lib.hid (blkK HQ20.out hB)
  clear o K hB HO20 HQ20
  go_wp2
  go_ret
  exact ⟨rfl, HO21.out⟩
end Go.Proofs.YtkhnjckkjdldbaaGreatDoor.Q
