import Derived.Test.YtkhnjckkjdldbaaDoorK6
namespace Go.Proofs.YtkhnjckkjdldbaaDoor.Q
open Go.RowKit Go.Proofs.YtkhnjckkjdldbaaDoorW.PrintWords Go.Deep Go.Maps Go.WideShapes
open Go.Proofs.YtkhnjckkjdldbaaDoor.Pr (S30 S32 z30 k30 k32)
set_option linter.unusedVariables false
set_option linter.unusedSimpArgs false
attribute [local go_sem] Oper.semAt_some
/-! NO BOARD -/
def NoneB (x : Option Addr) (w : World) : Prop := ∀ W, Below w.heap.size w W → Calls Tryd.prog 21 #[.pointer x] W fun e w' => e = .returned (.bool true) ∧ w' = W
theorem NoneB.below {x : Option Addr} {w w' : World} (h : NoneB x w) (hB : Below w.heap.size w w') : NoneB x w' := fun W hb => h W (below_step hB hb)
theorem noneB_nil (w : World) : NoneB none w := fun W _ => none_nil W
theorem noneB_plain {c : Nat} {cs : Array Value} {w : World} (h : w.heap[c]? = some (.cells cs 51 (0, 0))) (h0 : cs[0]? = some (.bool false)) : NoneB (some ⟨c, 0, none⟩) w := fun W hb => none_plain (blkK h hb) h0
theorem all_none (x : Option Addr) (w : World) (h : NoneB x w) : Calls Tryd.prog 16 #[.pointer x] w fun e w' => e = .returned (.slice none 0 0) ∧ Below w.heap.size w w' := by
  obtain ⟨W1, hW1⟩ : ∃ V, w.alloc (.cells #[.pointer x] 25) = V := ⟨_, rfl⟩
  have hB1 : Below w.heap.size w W1 := by rw [← hW1]; exact below_alloc (Below.refl _ _) _
  have hbx : W1.heap[w.heap.size]? = some (.cells #[.pointer x] 25 (0, 0)) := by rw [← hW1]; exact World.alloc_heap_new w _
  have x0 := cell_rowK (k := 0) (v := .pointer x) hbx rfl
  have K := Lib.hid (h W1 hB1)
  have HB := Lib.hid hB1
  have HW := Lib.hid hW1
  rw [← hW1] at x0
  clear h hB1 hbx hW1
  go_enter Tryd.func16, Tryd.ntmps16
  go_wp2_with fail
  rw [HW.out] at x0 ⊢
  refine K.out.mono ?_
  rintro e w1 ⟨rfl, rfl⟩
  clear K
  go_wp2
  go_ret
  exact ⟨rfl, HB.out⟩
theorem fire_none (x : Option Addr) (k : Int) (p : ByteArray) (w : World) (h : NoneB x w) : Calls Tryd.prog 12 #[.pointer x, .agg #[.int .i8 k, .string p]] w fun e w' => e = .returned (.slice none 0 0) ∧ Below w.heap.size w w' := by
  obtain ⟨W1, hW1⟩ : ∃ V, w.alloc (.cells #[.int .i8 k, .string p] 32) = V := ⟨_, rfl⟩
  have hB1 : Below w.heap.size w W1 := by rw [← hW1]; exact below_alloc (Below.refl _ _) _
  have K := Lib.hid (h W1 hB1)
  have HB := Lib.hid hB1
  have HW := Lib.hid hW1
  clear h hB1 hW1
  go_enter Tryd.func12, Tryd.ntmps12
  go_wp2_with fail
  go_step3
  go_wp2_with fail
  rw [HW.out]
  refine K.out.mono ?_
  rintro e w1 ⟨rfl, rfl⟩
  clear K
  go_wp2
  rw [Exit.noGoto_ret]
  go_ret
  exact ⟨rfl, HB.out⟩
theorem take_none (x : Option Addr) (f : Value) (w : World) (h : NoneB x w) : Calls Tryd.prog 28 #[.pointer x, f] w fun e w' => e = .returned (.slice none 0 0) ∧ Below w.heap.size w w' := by
  have K := Lib.hid (all_none x w h)
  clear h
  go_enter Tryd.func28, Tryd.ntmps28
  go_wp2_with fail
  refine K.out.mono ?_
  rintro e w1 ⟨rfl, hB⟩
  have HB := Lib.hid hB
  clear hB K
  go_wp2_with fail
  refine wp_loop_rounds 1 ?_
  rw [rounds_succ]
  go_wp2
  go_ret
  exact ⟨rfl, HB.out⟩
theorem drop_none (x : Option Addr) (n : Int) (w : World) (h : NoneB x w) : Calls Tryd.prog 19 #[.pointer x, .int .i64 n] w fun e w' => e = .returned (.slice none 0 0) ∧ Below w.heap.size w w' := by
  obtain ⟨W1, hW1⟩ : ∃ V, w.alloc (.cells #[.int .i64 n] 2) = V := ⟨_, rfl⟩
  have hB1 : Below w.heap.size w W1 := by rw [← hW1]; exact below_alloc (Below.refl _ _) _
  have K := Lib.hid (fun f => take_none x f W1 (h.below hB1))
  have HB := Lib.hid hB1
  have HW := Lib.hid hW1
  clear h hB1 hW1
  go_enter Tryd.func19, Tryd.ntmps19
  go_wp2_with fail
  rw [HW.out]
  refine (K.out _).mono ?_
  rintro e w1 ⟨rfl, hB⟩
  have HB2 := Lib.hid (below_step HB.out hB)
  clear hB K
  go_wp2
  go_ret
  exact ⟨rfl, HB2.out⟩
theorem clear_none (x : Option Addr) (w : World) (h : NoneB x w) : Calls Tryd.prog 18 #[.pointer x] w fun e w' => e = .returned (.slice none 0 0) ∧ Below w.heap.size w w' := by
  have K := Lib.hid (fun f => take_none x f w h)
  clear h
  go_enter Tryd.func18, Tryd.ntmps18
  go_wp2_with fail
  refine (K.out _).mono ?_
  rintro e w1 ⟨rfl, hB⟩
  have HB2 := Lib.hid hB
  clear hB K
  go_wp2
  go_ret
  exact ⟨rfl, HB2.out⟩
/-! A WATCH FOR A NODE ITSELF -/
theorem itself_calls (k : Int) (p : ByteArray) (w : World) : Calls Tryd.prog 89 #[.agg #[.int .i8 k, .string p]] w fun e w' => e = .returned (.bool (k != 4)) ∧ Below w.heap.size w w' := by
  have HB := Lib.hid (below_alloc (Below.refl w.heap.size w) (.cells #[.int .i8 k, .string p] 32))
  go_enter Tryd.func89, Tryd.ntmps89
  go_wp2
  go_ret
  exact ⟨rfl, HB.out⟩
theorem metData_same (k : Int) (p : ByteArray) (w : World) : Calls Tryd.prog 88 #[.agg #[.string p], .agg #[.int .i8 k, .string p]] w fun e w' => e = .returned (.bool (k != 4)) ∧ Below w.heap.size w w' := by
  obtain ⟨W1, hW1⟩ : ∃ V, (w.alloc (.cells #[.string p] 65)).alloc (.cells #[.int .i8 k, .string p] 32) = V := ⟨_, rfl⟩
  have hB1 : Below w.heap.size w W1 := by rw [← hW1]; exact below_alloc (below_alloc (Below.refl _ _) _) _
  have K := Lib.hid (itself_calls k p W1)
  have hq : (p.toList == p.toList) = true := by simp
  have HB := Lib.hid hB1
  have HW := Lib.hid hW1
  clear hB1 hW1
  go_enter Tryd.func88, Tryd.ntmps88
  go_wp2_with fail
  rw [HW.out]
  refine K.out.mono ?_
  rintro e w1 ⟨rfl, hB⟩
  have HB2 := Lib.hid (below_step HB.out hB)
  clear hB K hq
  go_wp2
  go_ret
  exact ⟨rfl, HB2.out⟩
theorem assert_yes {t x : TypeId} {fs : Array Field} (ht : Tryd.prog.underlying t = some (.struct fs)) (v : Value) (W : World) : (Instr.typeAssert (.iface t v) x t true).run Tryd.prog W = .ok (.tuple #[v, .bool true]) W := by
  unfold Instr.typeAssert
  rw [Sem.run_bind, run_underlying ht W]
  simp
theorem assert_no {t t' x : TypeId} {fs : Array Field} (ht : Tryd.prog.underlying t = some (.struct fs)) (hne : t' ≠ t) (v z : Value) (W : World) (hz : (zeroValue t).run Tryd.prog W = .ok z W) : (Instr.typeAssert (.iface t' v) x t true).run Tryd.prog W = .ok (.tuple #[z, .bool false]) W := by
  unfold Instr.typeAssert
  rw [Sem.run_bind, run_underlying ht W]
  simp [hne, Sem.run_bind, hz]
theorem zeroW1 (w : World) : (zeroValue 66).run Tryd.prog w = .ok (.agg #[.string ⟨#[]⟩]) w := by
  have hz : Tryd.t66.zero = some (.agg #[.string ⟨#[]⟩]) := by kernel_rfl
  simp [zeroValue, hz]
set_option maxRecDepth 100000 in
theorem once_data (p : ByteArray) (w : World) : Calls Tryd.prog 24 #[.iface 65 (.agg #[.string p])] w fun e w' => e = .returned (.bool true) ∧ w' = w := by
  have a1 := fun W => assert_yes (x := 54) Tryd.underlying65 (.agg #[.string p]) W
  have a2 := fun W => assert_no (x := 54) (t' := 65) Tryd.underlying66 (by decide) (.agg #[.string p]) _ W (zeroW1 W)
  go_enter Tryd.func24, Tryd.ntmps24
  go_wp2
  go_ret
  exact ⟨rfl, rfl⟩
end Go.Proofs.YtkhnjckkjdldbaaDoor.Q
