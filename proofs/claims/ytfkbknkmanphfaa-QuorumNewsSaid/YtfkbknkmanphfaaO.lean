import Derived.Test.YtfkbknkmanphfaaN
import Derived.Test.YtfkbknkmanphfaaG
namespace Go.Proofs.Ytfkbknkmanphfaa.Q
open Go.RowKit Go.Proofs.YtfkbknkmanphfaaW.PrintWords Go.Sort
set_option linter.unusedVariables false
set_option linter.unusedSimpArgs false

theorem heap3 (w : World) (a b c : Obj) : (((w.alloc a).alloc b).alloc c).heap[w.heap.size]? = some a ∧ (((w.alloc a).alloc b).alloc c).heap[w.heap.size + 1]? = some b ∧ (((w.alloc a).alloc b).alloc c).heap[w.heap.size + 2]? = some c ∧ Below w.heap.size w (((w.alloc a).alloc b).alloc c) := by
  have e1 : (w.alloc a).heap.size = w.heap.size + 1 := by simp
  have e2 : ((w.alloc a).alloc b).heap.size = w.heap.size + 2 := by simp
  refine ⟨?_, ?_, ?_, below_alloc (below_alloc (below_alloc (Below.refl _ _) _) _) _⟩
  · rw [heap_alloc_old _ _ (by omega), heap_alloc_old _ _ (by omega)]; exact heap_alloc_new w _
  · rw [heap_alloc_old _ _ (by omega), ← e1]; exact heap_alloc_new _ _
  · rw [← e2]; exact heap_alloc_new _ _
theorem keepb {w w' : World} {k : Nat} {o : Obj} (h : w.heap[k]? = some o) (hB : Below w.heap.size w w') : w'.heap[k]? = some o :=
  (hB.block k (Array.getElem?_eq_some_iff.1 h).1).trans h
theorem box44 {w : World} {b : Nat} {u v : Value} {t : TypeId} (h : w.heap[b]? = some (.cells #[u, v] t (0, 0))) : w.cell? ⟨b, 0, none⟩ = some u ∧ w.cell? ⟨b, 1, none⟩ = some v :=
  ⟨(cell_of_row w b 0 _ _ _ h).trans rfl, (cell_of_row w b 1 _ _ _ h).trans rfl⟩
set_option maxRecDepth 100000 in
set_option maxHeartbeats 16000000 in
theorem none_calls (n s ze zn : Int) (hn : -128 ≤ n ∧ n ≤ 127) (hs : 0 ≤ s ∧ s ≤ 255) (w : World) :
    Calls Try.prog 7 #[.int .i8 n, .int .u8 s, .agg #[.int .u32 ze, .int .u32 zn]] w fun e w' => e = .returned (.bool true) ∧ Below w.heap.size w w' := by
  have HN := Lib.hid hn
  have HS := Lib.hid hs
  clear hn hs
  obtain ⟨h1, h2, h3, hB⟩ := heap3 w (Obj.cells #[Value.int .u32 ze, Value.int .u32 zn] 44) (Obj.cells #[Value.slice none 0 0, Value.slice none 0 0, Value.int .i64 0, Value.int .i64 0, Value.int .i64 0, Value.int .i64 0, Value.int .i64 0, Value.int .i64 0, Value.int .i64 0, Value.int .i64 0] 66) (Obj.cells #[Value.pointer none, Value.bool false, Value.int .u32 0, Value.int .u32 0, Value.bool false, Value.int .u32 0, Value.int .u32 0, Value.bool false, Value.int .u32 0, Value.int .u32 0, Value.bool false, Value.int .u32 0, Value.int .u32 0, Value.bool false, Value.int .u32 0, Value.int .u32 0, Value.bool false, Value.int .u32 0, Value.int .u32 0, Value.bool false, Value.int .u32 0, Value.int .u32 0] 71)
  obtain ⟨W, hW⟩ : ∃ W, ((w.alloc (Obj.cells #[Value.int .u32 ze, Value.int .u32 zn] 44)).alloc (Obj.cells #[Value.slice none 0 0, Value.slice none 0 0, Value.int .i64 0, Value.int .i64 0, Value.int .i64 0, Value.int .i64 0, Value.int .i64 0, Value.int .i64 0, Value.int .i64 0, Value.int .i64 0] 66)).alloc (Obj.cells #[Value.pointer none, Value.bool false, Value.int .u32 0, Value.int .u32 0, Value.bool false, Value.int .u32 0, Value.int .u32 0, Value.bool false, Value.int .u32 0, Value.int .u32 0, Value.bool false, Value.int .u32 0, Value.int .u32 0, Value.bool false, Value.int .u32 0, Value.int .u32 0, Value.bool false, Value.int .u32 0, Value.int .u32 0, Value.bool false, Value.int .u32 0, Value.int .u32 0] 71) = W := ⟨_, rfl⟩
  rw [hW] at h1 h2 h3 hB
  have HW := Lib.hid hW
  have HB := Lib.hid hB
  have HZ := Lib.hid h1
  have HP : Hid (Noth W (.pointer (some ⟨w.heap.size + 1, 0, none⟩))) := Lib.hid (.inr ⟨_, rfl, (cell_of_row _ _ 9 _ _ _ h2).trans rfl⟩)
  have HA : Hid (NothA W (.pointer (some ⟨w.heap.size + 2, 0, none⟩))) := Lib.hid (.inr ⟨_, rfl, (cell_of_row _ _ 0 _ _ _ h3).trans rfl⟩)
  clear hW hB h1 h2 h3
  go_enter Try.func7, Try.ntmps7
  go_wp2_with fail
  rw [HW.out]
  refine (newAcks_no _ _ (noth_nil _)).mono ?_
  rintro e wx ⟨rfl, rfl⟩
  go_wp2_with fail
  refine (newAcks_no _ _ HP.out).mono ?_
  rintro e wx ⟨rfl, rfl⟩
  go_wp2_with fail
  refine (lives_calls _).mono ?_
  rintro e w1 ⟨rfl, hB⟩
  replace HP := Lib.hid (HP.out.below hB)
  replace HA := Lib.hid (HA.out.below hB)
  replace HZ := Lib.hid (keepb HZ.out hB)
  replace HB := Lib.hid (below_then HB.out HB.out.size hB)
  clear hB
  go_wp2_with fail
  refine (size_no _ _ (noth_nil _)).mono ?_
  rintro e wx ⟨rfl, rfl⟩
  go_wp2_with fail
  refine (size_no _ _ HP.out).mono ?_
  rintro e wx ⟨rfl, rfl⟩
  go_wp2_with fail
  refine (counts_no _ _ HN.out _ (noth_nil _)).mono ?_
  rintro e wx ⟨rfl, rfl⟩
  go_wp2_with fail
  refine (counts_no _ _ HN.out _ HP.out).mono ?_
  rintro e wx ⟨rfl, rfl⟩
  go_wp2_with fail
  refine (has_no _ _ HS.out _ (noth_nil _)).mono ?_
  rintro e wx ⟨rfl, rfl⟩
  go_wp2_with fail
  refine (has_no _ _ HS.out _ HP.out).mono ?_
  rintro e wx ⟨rfl, rfl⟩
  go_wp2_with fail
  refine (least_no _ _ HS.out _ (noth_nil _)).mono ?_
  rintro e wx ⟨rfl, rfl⟩
  go_wp2_with fail
  refine (least_no _ _ HS.out _ HP.out).mono ?_
  rintro e wx ⟨rfl, rfl⟩
  obtain ⟨z0, z1⟩ := box44 HZ.out
  go_wp2_with fail
  refine (putN _ _ _ _ HN.out _ (.inl rfl)).mono ?_
  rintro e w2 ⟨rfl, hB⟩
  replace HP := Lib.hid (HP.out.below hB)
  replace HA := Lib.hid (HA.out.below hB)
  replace HZ := Lib.hid (keepb HZ.out hB)
  replace HB := Lib.hid (below_then HB.out HB.out.size hB)
  clear hB
  clear z0 z1
  obtain ⟨z0, z1⟩ := box44 HZ.out
  go_wp2_with fail
  refine (putN _ _ _ _ HN.out _ HA.out).mono ?_
  rintro e w3 ⟨rfl, hB⟩
  replace HP := Lib.hid (HP.out.below hB)
  replace HA := Lib.hid (HA.out.below hB)
  replace HZ := Lib.hid (keepb HZ.out hB)
  replace HB := Lib.hid (below_then HB.out HB.out.size hB)
  clear hB
  clear z0 z1
  go_wp2_with fail
  refine (ofN _ _ HN.out _ (.inl rfl)).mono ?_
  rintro e w4 ⟨rfl, hB⟩
  replace HP := Lib.hid (HP.out.below hB)
  replace HA := Lib.hid (HA.out.below hB)
  replace HZ := Lib.hid (keepb HZ.out hB)
  replace HB := Lib.hid (below_then HB.out HB.out.size hB)
  clear hB
  have hB := below_alloc (Below.refl w4.heap.size w4) (Obj.cells #[Value.int .u32 0, Value.int .u32 0] 44)
  have hX := heap_alloc_new w4 (Obj.cells #[Value.int .u32 0, Value.int .u32 0] 44)
  obtain ⟨W4, hW⟩ : ∃ W, w4.alloc (Obj.cells #[Value.int .u32 0, Value.int .u32 0] 44) = W := ⟨_, rfl⟩
  rw [hW] at hB hX
  have HW4 := Lib.hid hW
  have XW4 := Lib.hid hX
  clear hW hX
  replace HP := Lib.hid (HP.out.below hB)
  replace HA := Lib.hid (HA.out.below hB)
  replace HZ := Lib.hid (keepb HZ.out hB)
  replace HB := Lib.hid (below_then HB.out HB.out.size hB)
  clear hB
  go_wp2_with fail
  rw [HW4.out]
  clear HW4
  refine (ofN _ _ HN.out _ HA.out).mono ?_
  rintro e w5 ⟨rfl, hB⟩
  replace HP := Lib.hid (HP.out.below hB)
  replace HA := Lib.hid (HA.out.below hB)
  replace HZ := Lib.hid (keepb HZ.out hB)
  replace XW4 := Lib.hid (keepb XW4.out hB)
  replace HB := Lib.hid (below_then HB.out HB.out.size hB)
  clear hB
  have hB := below_alloc (Below.refl w5.heap.size w5) (Obj.cells #[Value.int .u32 0, Value.int .u32 0] 44)
  have hX := heap_alloc_new w5 (Obj.cells #[Value.int .u32 0, Value.int .u32 0] 44)
  obtain ⟨W5, hW⟩ : ∃ W, w5.alloc (Obj.cells #[Value.int .u32 0, Value.int .u32 0] 44) = W := ⟨_, rfl⟩
  rw [hW] at hB hX
  have HW5 := Lib.hid hW
  have XW5 := Lib.hid hX
  clear hW hX
  replace HP := Lib.hid (HP.out.below hB)
  replace HA := Lib.hid (HA.out.below hB)
  replace HZ := Lib.hid (keepb HZ.out hB)
  replace XW4 := Lib.hid (keepb XW4.out hB)
  replace HB := Lib.hid (below_then HB.out HB.out.size hB)
  clear hB
  go_wp2_with fail
  rw [HW5.out]
  clear HW5
  refine (committedN _ _ (.inl rfl)).mono ?_
  rintro e w6 ⟨rfl, hB⟩
  replace HP := Lib.hid (HP.out.below hB)
  replace HA := Lib.hid (HA.out.below hB)
  replace HZ := Lib.hid (keepb HZ.out hB)
  replace XW4 := Lib.hid (keepb XW4.out hB)
  replace XW5 := Lib.hid (keepb XW5.out hB)
  replace HB := Lib.hid (below_then HB.out HB.out.size hB)
  clear hB
  have hB := below_alloc (Below.refl w6.heap.size w6) (Obj.cells #[Value.int .u32 0, Value.int .u32 0] 44)
  have hX := heap_alloc_new w6 (Obj.cells #[Value.int .u32 0, Value.int .u32 0] 44)
  obtain ⟨W6, hW⟩ : ∃ W, w6.alloc (Obj.cells #[Value.int .u32 0, Value.int .u32 0] 44) = W := ⟨_, rfl⟩
  rw [hW] at hB hX
  have HW6 := Lib.hid hW
  have XW6 := Lib.hid hX
  clear hW hX
  replace HP := Lib.hid (HP.out.below hB)
  replace HA := Lib.hid (HA.out.below hB)
  replace HZ := Lib.hid (keepb HZ.out hB)
  replace XW4 := Lib.hid (keepb XW4.out hB)
  replace XW5 := Lib.hid (keepb XW5.out hB)
  replace HB := Lib.hid (below_then HB.out HB.out.size hB)
  clear hB
  go_wp2_with fail
  rw [HW6.out]
  clear HW6
  refine (committedN _ _ HA.out).mono ?_
  rintro e w7 ⟨rfl, hB⟩
  replace HP := Lib.hid (HP.out.below hB)
  replace HA := Lib.hid (HA.out.below hB)
  replace HZ := Lib.hid (keepb HZ.out hB)
  replace XW4 := Lib.hid (keepb XW4.out hB)
  replace XW5 := Lib.hid (keepb XW5.out hB)
  replace XW6 := Lib.hid (keepb XW6.out hB)
  replace HB := Lib.hid (below_then HB.out HB.out.size hB)
  clear hB
  have hB := below_alloc (Below.refl w7.heap.size w7) (Obj.cells #[Value.int .u32 0, Value.int .u32 0] 44)
  have hX := heap_alloc_new w7 (Obj.cells #[Value.int .u32 0, Value.int .u32 0] 44)
  obtain ⟨W7, hW⟩ : ∃ W, w7.alloc (Obj.cells #[Value.int .u32 0, Value.int .u32 0] 44) = W := ⟨_, rfl⟩
  rw [hW] at hB hX
  have HW7 := Lib.hid hW
  have XW7 := Lib.hid hX
  clear hW hX
  replace HP := Lib.hid (HP.out.below hB)
  replace HA := Lib.hid (HA.out.below hB)
  replace HZ := Lib.hid (keepb HZ.out hB)
  replace XW4 := Lib.hid (keepb XW4.out hB)
  replace XW5 := Lib.hid (keepb XW5.out hB)
  replace XW6 := Lib.hid (keepb XW6.out hB)
  replace HB := Lib.hid (below_then HB.out HB.out.size hB)
  clear hB
  have hB := below_alloc (Below.refl W7.heap.size W7) (Obj.cells #[Value.int .u32 0, Value.int .u32 0] 44)
  have hX := heap_alloc_new W7 (Obj.cells #[Value.int .u32 0, Value.int .u32 0] 44)
  obtain ⟨WL, hW⟩ : ∃ W, W7.alloc (Obj.cells #[Value.int .u32 0, Value.int .u32 0] 44) = W := ⟨_, rfl⟩
  rw [hW] at hB hX
  have HWL := Lib.hid hW
  have XWL := Lib.hid hX
  clear hW hX
  replace HP := Lib.hid (HP.out.below hB)
  replace HA := Lib.hid (HA.out.below hB)
  replace HZ := Lib.hid (keepb HZ.out hB)
  replace XW4 := Lib.hid (keepb XW4.out hB)
  replace XW5 := Lib.hid (keepb XW5.out hB)
  replace XW6 := Lib.hid (keepb XW6.out hB)
  replace XW7 := Lib.hid (keepb XW7.out hB)
  replace HB := Lib.hid (below_then HB.out HB.out.size hB)
  clear hB
  obtain ⟨p0, q0⟩ := box44 XW4.out
  obtain ⟨p1, q1⟩ := box44 XW5.out
  obtain ⟨p2, q2⟩ := box44 XW6.out
  obtain ⟨p3, q3⟩ := box44 XW7.out
  obtain ⟨p4, q4⟩ := box44 XWL.out
  rw [← HWL.out, ← HW7.out] at p0 q0 p1 q1 p2 q2 p3 q3 p4 q4
  go_wp2
  rw [HW7.out, HWL.out]
  go_ret
  exact ⟨rfl, HB.out⟩

end Go.Proofs.Ytfkbknkmanphfaa.Q
