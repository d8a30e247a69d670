import Derived.Test.YtbcijdgpaglbnaaG
namespace Go.Proofs.Ytbcijdgpaglbnaa.Q
open Go.RowKit Go.Shelf Go.Proofs.YtbcijdgpaglbnaaW.PrintWords Go.Deep
set_option linter.unusedVariables false
set_option linter.unusedSimpArgs false
attribute [local go_sem] Oper.semAt_some

/-! PLAIN LAWS: what Put makes is a frame -/
theorem frame_app (L R : List Nat) : frameB L ++ R = four4 L.length ++ (four4 (sumB L) ++ (L ++ ([66] ++ R))) := by simp [frameB]
theorem frame_length (L : List Nat) : (frameB L).length = L.length + 9 := by simp [frameB, four4]
theorem frame_drop8 (L R : List Nat) : (frameB L ++ R).drop 8 = L ++ ([66] ++ R) := by
  rw [frame_app]; simp [four4]
theorem frame_body (L R : List Nat) : bodyOf (frameB L ++ R) L.length = L := by
  unfold bodyOf
  rw [frame_drop8, List.take_left]
theorem frame_head (L R : List Nat) (h : L.length < 4294967296) : headN (frameB L ++ R) = L.length := by
  unfold headN
  rw [frame_app]
  simp only [four4, List.cons_append, List.getD_cons_zero, List.getD_cons_succ]
  exact num_four L.length h
theorem frame_sum (L R : List Nat) (j : Nat) (hj : j < 4) : (frameB L ++ R).getD (4 + j) 0 = byteOf (sumB L) j := by
  rw [frame_app]
  have : j = 0 ∨ j = 1 ∨ j = 2 ∨ j = 3 := by omega
  rcases this with rfl | rfl | rfl | rfl <;> simp [four4]
theorem frame_last (L R : List Nat) : (frameB L ++ R).getD (8 + L.length) 0 = 66 := by
  have : (frameB L ++ R).getD (8 + L.length) 0 = ((frameB L ++ R).drop 8).getD L.length 0 := by
    simp [List.getD_eq_getElem?_getD, List.getElem?_drop]
  rw [this, frame_drop8]
  simp [List.getD_eq_getElem?_getD]
theorem frame_first (L R : List Nat) (h1 : 1 ≤ L.length) (h2 : L.length ≤ 1048576) : firstB (frameB L ++ R) = some L.length := by
  have hh := frame_head L R (by omega)
  have hs : sumOk (frameB L ++ R) L.length = true := by
    unfold sumOk eq4
    dsimp only
    rw [frame_body, frame_sum L R 0 (by omega), frame_sum L R 1 (by omega), frame_sum L R 2 (by omega), frame_sum L R 3 (by omega)]
    simp
  have hl : (frameB L ++ R).length = L.length + 9 + R.length := by rw [List.length_append, frame_length]
  unfold firstB
  rw [hh, if_pos]
  exact ⟨by omega, by omega, h2, by omega, frame_last L R, hs⟩
theorem one_frame (L : List Nat) (h1 : 1 ≤ L.length) (h2 : L.length ≤ 1048576) : oneB (frameB L) = some L := by
  have := frame_first L [] h1 h2
  have hb := frame_body L []
  rw [List.append_nil] at this hb
  unfold oneB
  rw [this]
  simp only
  rw [if_pos (by rw [frame_length]; omega), hb]
theorem cnt_is (L : List Nat) (k : Nat) (hn : bodyN L k = none) (hs : ∀ i, i < k → (bodyN L i).isSome = true) : cnt L = k := by
  by_cases h : cnt L < k
  · have := hs _ h; rw [cnt_none] at this; cases this
  · by_cases h2 : k < cnt L
    · have := cnt_some L k h2; rw [hn] at this; cases this
    · omega
theorem first_nil (L : List Nat) (h : L.length ≤ 8) : firstB L = none := by unfold firstB; rw [if_neg (fun x => by omega)]
theorem whole_frame (L : List Nat) (h1 : 1 ≤ L.length) (h2 : L.length ≤ 1048576) : posTo (frameB L) (cnt (frameB L)) = L.length + 9 := by
  have b0 : bodyN (frameB L) 0 = some L.length := by
    have := frame_first L [] h1 h2
    rw [List.append_nil] at this
    simpa [bodyN, posTo] using this
  have p1 : posTo (frameB L) 1 = L.length + 9 := by rw [posTo_succ b0]; simp [posTo]; omega
  have b1 : bodyN (frameB L) 1 = none := by
    unfold bodyN
    rw [p1]
    exact first_nil _ (by simp [frame_length])
  have : cnt (frameB L) = 1 := cnt_is _ 1 b1 (fun i hi => by
    have : i = 0 := by omega
    subst this; rw [b0]; rfl)
  rw [this, p1]

theorem all_calls (A : Option Addr) (c : Nat) (L : List Nat) (w : World) (hr : RdB w A L) (hl : L.length ≤ 1099511627776) :
    Calls Try.prog 14 #[.slice A L.length c] w fun e w' => e = .returned (.func (.func 22) #[] #[.pointer (some ⟨w.heap.size, 0, none⟩)]) ∧ w'.heap[w.heap.size]? = some (.cells #[.slice (some ⟨w.heap.size + 1, 0, none⟩) L.length L.length] 25 (0, 0)) ∧ w'.heap[w.heap.size + 1]? = some (.cells (bytesV L).toArray 5 (0, 0)) ∧ Below w.heap.size w w' := by
  have B0 := below_alloc (Below.refl w.heap.size w) (.cells #[.slice A L.length c] 25)
  have N0 := heap_alloc_new w (.cells #[.slice A L.length c] 25)
  have KO := Lib.hid (own_calls A c L _ (hr.below B0) hl)
  have S0 := Lib.hid (And.intro B0 N0)
  clear hr B0 N0
  go_enter Try.func14, Try.ntmps14
  go_wp2_with fail
  refine KO.out.mono ?_
  rintro e w1 ⟨rfl, hg, hB⟩
  have sz : (w.alloc (.cells #[.slice A L.length c] 25)).heap.size = w.heap.size + 1 := by simp
  have bx : w1.heap[w.heap.size]? = some (.cells #[.slice A L.length c] 25 (0, 0)) := (hB.block _ (by rw [sz]; omega)).trans S0.out.2
  rw [sz] at hg
  have c0 := (cell_of_row w1 w.heap.size 0 _ _ _ bx).trans rfl
  have z0 := frozen_of_row w1 w.heap.size 0 _ _ bx
  have H := Lib.hid (And.intro bx (And.intro hg (below_then S0.out.1 (by rw [sz]; omega) hB)))
  clear bx hg hB KO S0
  go_wp2
  go_ret
  refine ⟨rfl, ?_, ?_, H.out.2.2.setCell (p := ⟨w.heap.size, 0, none⟩) (Nat.le_refl _) _⟩
  · rw [heap_setCell_same _ _ _ _ _ _ H.out.1]; simp
  · rw [blk_setCell_other _ _ _ _ (by simp)]; exact H.out.2.1

theorem lit_rdb (w : World) (L : List Nat) (hl : L.length ≤ 9223372036854775807) : RdB (w.alloc (.cells (bytesV L).toArray 5)) (some ⟨w.heap.size, 0, none⟩) L := own_rdb (heap_alloc_new w _) hl
def want7 : List Nat := [0, 0, 0, 1, 0, 8, 0, 8, 7, 66]
theorem want7_frame : frameB [7] = want7 := by decide
theorem bytes7 : Bytes [7] := fun i => by
  match i with
  | 0 => decide
  | n + 1 => simp
theorem bytesW : Bytes want7 := fun i => by
  match i with
  | 0 | 1 | 2 | 3 | 4 | 5 | 6 | 7 | 8 | 9 => decide
  | n + 10 => simp [want7]
theorem func_eqIn (d : Nat) (fn : Fn) (a b : Array Value) (W : World) : (Op.equalIn (d + 1) 41 (.func fn a b) .nilFunc).run Try.prog W = .ok false W := by
  simp [Op.equalIn, run_underlying Try.underlying41]
theorem func_equal (fn : Fn) (a b : Array Value) (W : World) : (Op.equal 41 (.func fn a b) .nilFunc).run Try.prog W = .ok false W := func_eqIn 9999 fn a b W
theorem func_neq (fn : Fn) (a b : Array Value) (W : World) : (binOp .neq 41 (.func fn a b) .nilFunc).run Try.prog W = .ok (.bool true) W := by
  simp only [binOp]
  simp [func_equal]
attribute [local go_sem] func_neq
set_option maxRecDepth 100000 in
set_option maxHeartbeats 4000000 in
theorem lives_calls (w : World) : Calls Try.prog 7 #[] w fun e w' => e = .returned (.bool true) ∧ Below w.heap.size w w' := by
  have K1 := Lib.hid (put_yes (some ⟨w.heap.size, 0, none⟩) 1 [7] _ (lit_rdb w [7] (by decide)) bytes7 (by decide) (by decide))
  have B0 := Lib.hid (below_alloc (Below.refl w.heap.size w) (.cells (bytesV [7]).toArray 5))
  go_enter Try.func7, Try.ntmps7
  go_wp2_with fail
  refine K1.out.mono ?_
  rintro e w1 ⟨hB, g, c, rfl, hg, hc, hR⟩
  have HB := Lib.hid (below_then B0.out B0.out.size hB)
  rw [want7_frame] at hR
  have RF := Lib.hid hR
  have hc10 : 10 ≤ c := hc
  simp only [List.length_cons, List.length_nil, Nat.reduceAdd]
  clear hB hR K1 B0 hg hc
  go_wp2_with fail
  have h1 : oneB want7 = some [7] := by rw [← want7_frame]; exact one_frame [7] (by decide) (by decide)
  have bW := below_alloc (Below.refl w1.heap.size w1) (.cells (bytesV want7).toArray 5)
  have RW2 := Lib.hid (lit_rdb w1 want7 (by decide))
  have RF2 := Lib.hid (RF.out.below bW)
  have HB2 := Lib.hid (below_then HB.out HB.out.size bW)
  obtain ⟨W2, hW2⟩ : ∃ W, w1.alloc (.cells (bytesV want7).toArray 5) = W := ⟨_, rfl⟩
  have hW2' : w1.alloc (.cells #[.int .u8 0, .int .u8 0, .int .u8 0, .int .u8 1, .int .u8 0, .int .u8 8, .int .u8 0, .int .u8 8, .int .u8 7, .int .u8 66] 5) = W2 := hW2
  rw [hW2] at RW2 RF2 HB2
  rw [hW2']
  obtain ⟨g2, hg2⟩ : ∃ g2, w1.heap.size = g2 := ⟨_, rfl⟩
  rw [hg2] at RW2 ⊢
  clear bW hW2 hW2' hg2 HB RF
  refine (one_calls (some ⟨g2, 0, none⟩) 10 want7 W2 RW2.out bytesW (by decide) (by decide)).mono ?_
  rintro e w3 ⟨hB, hP⟩
  rw [h1] at hP
  obtain ⟨g3, c3, rfl, hR3⟩ := hP
  have R3 := Lib.hid hR3
  have RW3 := Lib.hid (RW2.out.below hB)
  have RF3 := Lib.hid (RF2.out.below hB)
  have HB3 := Lib.hid (below_then HB2.out HB2.out.size hB)
  simp only [List.length_cons, List.length_nil, Nat.reduceAdd]
  clear hB hR3 h1 RW2 RF2 HB2
  go_wp2_with fail
  refine (eq_calls (some ⟨g, 0, none⟩) (some ⟨g2, 0, none⟩) c 10 want7 w3 RF3.out RW3.out).mono ?_
  rintro e w4 ⟨rfl, hB⟩
  have R4 := Lib.hid (R3.out.below hB)
  have RW4 := Lib.hid (RW3.out.below hB)
  have HB4 := Lib.hid (below_then HB3.out HB3.out.size hB)
  clear hB R3 RW3 RF3 HB3
  go_wp2_with fail
  have bW := below_alloc (Below.refl w4.heap.size w4) (.cells (bytesV [7]).toArray 5)
  refine (eq_calls (some ⟨g3, 0, none⟩) (some ⟨w4.heap.size, 0, none⟩) c3 1 [7] _ (R4.out.below bW) (lit_rdb w4 [7] (by decide))).mono ?_
  rintro e w5 ⟨rfl, hB⟩
  have HB5 := Lib.hid (below_then (below_then HB4.out HB4.out.size bW) (by have := HB4.out.size; have := bW.size; omega) hB)
  have RW5 := Lib.hid ((RW4.out.below bW).below hB)
  clear hB bW R4 RW4 HB4
  go_wp2_with fail
  refine (all_calls (some ⟨g2, 0, none⟩) 10 want7 w5 RW5.out (by decide)).mono ?_
  rintro e w6 ⟨rfl, -, -, hB⟩
  have HB6 := Lib.hid (below_then HB5.out HB5.out.size hB)
  clear hB
  go_wp2
  go_ret
  exact ⟨rfl, HB6.out⟩
end Go.Proofs.Ytbcijdgpaglbnaa.Q
