import Derived.Test.YtkhnjckkjdldbaaGreatDoorG2
namespace Go.Proofs.YtkhnjckkjdldbaaGreatDoor.Bag
open Go.RowKit Go.Proofs.YtkhnjckkjdldbaaGreatDoorW.PrintWords Go.Deep Go.Maps Go.WideShapes Go.Lib
open Go.Proofs.YtkhnjckkjdldbaaGreatDoor.Q
set_option linter.unusedVariables false
set_option linter.unusedSimpArgs false
attribute [local go_sem] Oper.semAt_some
/-! GROWN AND APART, OF AN EMPTY LIST (printed by mkempty.py) -/
theorem grownBytes_nil (W : World) (d : Int) (by_ : Int) : Calls Tryz.prog 62 #[.slice none 0 0, .int .i64 d, .int .i64 by_] W fun e w' => e = .returned (.bool true) ∧ Below W.heap.size W w' := by
  go_enter Tryz.func62, Tryz.ntmps62
  go_wp2_with fail
  go_loopw [7, 8] (fun vm vi wr => vm = .slice none 0 0 ∧ vi = .int .i64 0 ∧ Hid (Below W.heap.size W wr)) (fun _ _ _ => 0)
  case atStart => exact ⟨rfl, rfl, Lib.hid (Below.refl _ _)⟩
  case round =>
  obtain ⟨rfl, rfl, HB⟩ := hrel
  have q1 : decide ((0 : Int) < 0) = false := by decide
  go_wp2_with fail
  go_loopw [11] (fun vi wr => vi = .int .i64 0 ∧ Hid (Below W.heap.size W wr)) (fun _ _ => 0)
  case atStart => exact ⟨rfl, HB⟩
  case round =>
  clear HB
  obtain ⟨rfl, HB⟩ := hrel
  go_wp2
  go_ret
  exact ⟨rfl, HB.out⟩
theorem apartBytes_nil (W : World) : Calls Tryz.prog 29 #[.slice none 0 0] W fun e w' => e = .returned (.bool true) ∧ Below W.heap.size W w' := by
  go_enter Tryz.func29, Tryz.ntmps29
  go_wp2_with fail
  go_loopw [3] (fun vd wr => (vd = .int .i64 1 ∨ vd = .int .i64 100) ∧ Hid (Below W.heap.size W wr)) (fun vd _ => (200 - intOf vd).toNat)
  case atStart => exact ⟨Or.inl rfl, Lib.hid (Below.refl _ _)⟩
  case round =>
  obtain ⟨hd, HB⟩ := hrel
  have q0 : decide ((0 : Int) < 0) = false := by decide
  rcases hd with rfl | rfl
  · have q1 : ((1 : Int) == 1) = true := by decide
    go_wp2_with fail
    go_loopw [4] (fun vi wr => vi = .int .i64 0 ∧ Hid (Below W.heap.size W wr)) (fun _ _ => 0)
    case atStart => exact ⟨rfl, HB⟩
    case round =>
    clear HB
    obtain ⟨rfl, HB⟩ := hrel
    have K1 := Lib.hid (grownBytes_nil wr 1 1)
    go_wp2_with fail
    refine K1.out.mono ?_
    rintro e w2 ⟨rfl, hB2⟩
    have HB2 := Lib.hid (below_step HB.out hB2)
    have K2 := Lib.hid (grownBytes_nil w2 1 64)
    clear hB2 K1 HB
    go_wp2_with fail
    refine K2.out.mono ?_
    rintro e w3 ⟨rfl, hB3⟩
    have HB3 := Lib.hid (below_step HB2.out hB3)
    clear hB3 K2 HB2
    go_wp2
    go_roundw
    case measure => simp [intOf]
    case rel => exact ⟨Or.inr rfl, HB3⟩
  · have q1 : ((100 : Int) == 1) = false := by decide
    go_wp2
    go_ret
    exact ⟨rfl, HB.out⟩
theorem grownInts_nil (W : World) (by_ : Int) : Calls Tryz.prog 63 #[.slice none 0 0, .int .i64 by_] W fun e w' => e = .returned (.bool true) ∧ Below W.heap.size W w' := by
  go_enter Tryz.func63, Tryz.ntmps63
  go_wp2_with fail
  go_loopw [5, 6] (fun vm vi wr => vm = .slice none 0 0 ∧ vi = .int .i64 0 ∧ Hid (Below W.heap.size W wr)) (fun _ _ _ => 0)
  case atStart => exact ⟨rfl, rfl, Lib.hid (Below.refl _ _)⟩
  case round =>
  obtain ⟨rfl, rfl, HB⟩ := hrel
  have q1 : decide ((0 : Int) < 0) = false := by decide
  go_wp2_with fail
  go_loopw [9] (fun vi wr => vi = .int .i64 0 ∧ Hid (Below W.heap.size W wr)) (fun _ _ => 0)
  case atStart => exact ⟨rfl, HB⟩
  case round =>
  clear HB
  obtain ⟨rfl, HB⟩ := hrel
  go_wp2
  go_ret
  exact ⟨rfl, HB.out⟩
theorem apartInts_nil (W : World) : Calls Tryz.prog 30 #[.slice none 0 0] W fun e w' => e = .returned (.bool true) ∧ Below W.heap.size W w' := by
  go_enter Tryz.func30, Tryz.ntmps30
  go_wp2_with fail
  go_loopw [3] (fun vi wr => vi = .int .i64 0 ∧ Hid (Below W.heap.size W wr)) (fun _ _ => 0)
  case atStart => exact ⟨rfl, Lib.hid (Below.refl _ _)⟩
  case round =>
  obtain ⟨rfl, HB⟩ := hrel
  have q1 : decide ((0 : Int) < 0) = false := by decide
  have K1 := Lib.hid (grownInts_nil wr 1)
  go_wp2_with fail
  refine K1.out.mono ?_
  rintro e w2 ⟨rfl, hB2⟩
  have HB2 := Lib.hid (below_step HB.out hB2)
  have K2 := Lib.hid (grownInts_nil w2 24)
  clear hB2 K1 HB
  go_wp2_with fail
  refine K2.out.mono ?_
  rintro e w3 ⟨rfl, hB3⟩
  have HB3 := Lib.hid (below_step HB2.out hB3)
  clear hB3 K2 HB2
  go_wp2
  go_ret
  exact ⟨rfl, HB3.out⟩
theorem grownTexts_nil (W : World) (by_ : Int) : Calls Tryz.prog 65 #[.slice none 0 0, .int .i64 by_] W fun e w' => e = .returned (.bool true) ∧ Below W.heap.size W w' := by
  go_enter Tryz.func65, Tryz.ntmps65
  go_wp2_with fail
  go_loopw [5, 6] (fun vm vi wr => vm = .slice none 0 0 ∧ vi = .int .i64 0 ∧ Hid (Below W.heap.size W wr)) (fun _ _ _ => 0)
  case atStart => exact ⟨rfl, rfl, Lib.hid (Below.refl _ _)⟩
  case round =>
  obtain ⟨rfl, rfl, HB⟩ := hrel
  have q1 : decide ((0 : Int) < 0) = false := by decide
  go_wp2_with fail
  go_loopw [9] (fun vi wr => vi = .int .i64 0 ∧ Hid (Below W.heap.size W wr)) (fun _ _ => 0)
  case atStart => exact ⟨rfl, HB⟩
  case round =>
  clear HB
  obtain ⟨rfl, HB⟩ := hrel
  go_wp2
  go_ret
  exact ⟨rfl, HB.out⟩
theorem apartTexts_nil (W : World) : Calls Tryz.prog 31 #[.slice none 0 0] W fun e w' => e = .returned (.bool true) ∧ Below W.heap.size W w' := by
  go_enter Tryz.func31, Tryz.ntmps31
  go_wp2_with fail
  go_loopw [3] (fun vi wr => vi = .int .i64 0 ∧ Hid (Below W.heap.size W wr)) (fun _ _ => 0)
  case atStart => exact ⟨rfl, Lib.hid (Below.refl _ _)⟩
  case round =>
  obtain ⟨rfl, HB⟩ := hrel
  have q1 : decide ((0 : Int) < 0) = false := by decide
  have K1 := Lib.hid (grownTexts_nil wr 1)
  go_wp2_with fail
  refine K1.out.mono ?_
  rintro e w2 ⟨rfl, hB2⟩
  have HB2 := Lib.hid (below_step HB.out hB2)
  have K2 := Lib.hid (grownTexts_nil w2 24)
  clear hB2 K1 HB
  go_wp2_with fail
  refine K2.out.mono ?_
  rintro e w3 ⟨rfl, hB3⟩
  have HB3 := Lib.hid (below_step HB2.out hB3)
  clear hB3 K2 HB2
  go_wp2
  go_ret
  exact ⟨rfl, HB3.out⟩
theorem grownPieces_nil (W : World) (by_ : Int) : Calls Tryz.prog 66 #[.slice none 0 0, .int .i64 by_] W fun e w' => e = .returned (.bool true) ∧ Below W.heap.size W w' := by
  go_enter Tryz.func66, Tryz.ntmps66
  go_wp2_with fail
  go_loopw [5, 6] (fun vm vi wr => vm = .slice none 0 0 ∧ vi = .int .i64 0 ∧ Hid (Below W.heap.size W wr)) (fun _ _ _ => 0)
  case atStart => exact ⟨rfl, rfl, Lib.hid (Below.refl _ _)⟩
  case round =>
  obtain ⟨rfl, rfl, HB⟩ := hrel
  have q1 : decide ((0 : Int) < 0) = false := by decide
  go_wp2_with fail
  go_loopw [9] (fun vi wr => vi = .int .i64 0 ∧ Hid (Below W.heap.size W wr)) (fun _ _ => 0)
  case atStart => exact ⟨rfl, HB⟩
  case round =>
  clear HB
  obtain ⟨rfl, HB⟩ := hrel
  go_wp2
  go_ret
  exact ⟨rfl, HB.out⟩
theorem apartPieces_nil (W : World) : Calls Tryz.prog 32 #[.slice none 0 0] W fun e w' => e = .returned (.bool true) ∧ Below W.heap.size W w' := by
  go_enter Tryz.func32, Tryz.ntmps32
  go_wp2_with fail
  go_loopw [3] (fun vi wr => vi = .int .i64 0 ∧ Hid (Below W.heap.size W wr)) (fun _ _ => 0)
  case atStart => exact ⟨rfl, Lib.hid (Below.refl _ _)⟩
  case round =>
  obtain ⟨rfl, HB⟩ := hrel
  have q1 : decide ((0 : Int) < 0) = false := by decide
  have K1 := Lib.hid (grownPieces_nil wr 1)
  go_wp2_with fail
  refine K1.out.mono ?_
  rintro e w2 ⟨rfl, hB2⟩
  have HB2 := Lib.hid (below_step HB.out hB2)
  have K2 := Lib.hid (grownPieces_nil w2 24)
  clear hB2 K1 HB
  go_wp2_with fail
  refine K2.out.mono ?_
  rintro e w3 ⟨rfl, hB3⟩
  have HB3 := Lib.hid (below_step HB2.out hB3)
  clear hB3 K2 HB2
  go_wp2
  go_ret
  exact ⟨rfl, HB3.out⟩
theorem grownIds_nil (W : World) (by_ : Int) : Calls Tryz.prog 67 #[.slice none 0 0, .int .i64 by_] W fun e w' => e = .returned (.bool true) ∧ Below W.heap.size W w' := by
  go_enter Tryz.func67, Tryz.ntmps67
  go_wp2_with fail
  go_loopw [5, 6] (fun vm vi wr => vm = .slice none 0 0 ∧ vi = .int .i64 0 ∧ Hid (Below W.heap.size W wr)) (fun _ _ _ => 0)
  case atStart => exact ⟨rfl, rfl, Lib.hid (Below.refl _ _)⟩
  case round =>
  obtain ⟨rfl, rfl, HB⟩ := hrel
  have q1 : decide ((0 : Int) < 0) = false := by decide
  go_wp2_with fail
  go_loopw [9] (fun vi wr => vi = .int .i64 0 ∧ Hid (Below W.heap.size W wr)) (fun _ _ => 0)
  case atStart => exact ⟨rfl, HB⟩
  case round =>
  clear HB
  obtain ⟨rfl, HB⟩ := hrel
  go_wp2
  go_ret
  exact ⟨rfl, HB.out⟩
theorem apartIds_nil (W : World) : Calls Tryz.prog 33 #[.slice none 0 0] W fun e w' => e = .returned (.bool true) ∧ Below W.heap.size W w' := by
  go_enter Tryz.func33, Tryz.ntmps33
  go_wp2_with fail
  go_loopw [3] (fun vi wr => vi = .int .i64 0 ∧ Hid (Below W.heap.size W wr)) (fun _ _ => 0)
  case atStart => exact ⟨rfl, Lib.hid (Below.refl _ _)⟩
  case round =>
  obtain ⟨rfl, HB⟩ := hrel
  have q1 : decide ((0 : Int) < 0) = false := by decide
  have K1 := Lib.hid (grownIds_nil wr 1)
  go_wp2_with fail
  refine K1.out.mono ?_
  rintro e w2 ⟨rfl, hB2⟩
  have HB2 := Lib.hid (below_step HB.out hB2)
  have K2 := Lib.hid (grownIds_nil w2 24)
  clear hB2 K1 HB
  go_wp2_with fail
  refine K2.out.mono ?_
  rintro e w3 ⟨rfl, hB3⟩
  have HB3 := Lib.hid (below_step HB2.out hB3)
  clear hB3 K2 HB2
  go_wp2
  go_ret
  exact ⟨rfl, HB3.out⟩
theorem grownAcl_nil (W : World) (by_ : Int) : Calls Tryz.prog 68 #[.slice none 0 0, .int .i64 by_] W fun e w' => e = .returned (.bool true) ∧ Below W.heap.size W w' := by
  go_enter Tryz.func68, Tryz.ntmps68
  go_wp2_with fail
  go_loopw [5, 6] (fun vm vi wr => vm = .slice none 0 0 ∧ vi = .int .i64 0 ∧ Hid (Below W.heap.size W wr)) (fun _ _ _ => 0)
  case atStart => exact ⟨rfl, rfl, Lib.hid (Below.refl _ _)⟩
  case round =>
  obtain ⟨rfl, rfl, HB⟩ := hrel
  have q1 : decide ((0 : Int) < 0) = false := by decide
  go_wp2_with fail
  go_loopw [9] (fun vi wr => vi = .int .i64 0 ∧ Hid (Below W.heap.size W wr)) (fun _ _ => 0)
  case atStart => exact ⟨rfl, HB⟩
  case round =>
  clear HB
  obtain ⟨rfl, HB⟩ := hrel
  go_wp2
  go_ret
  exact ⟨rfl, HB.out⟩
theorem apartAcl_nil (W : World) : Calls Tryz.prog 34 #[.slice none 0 0] W fun e w' => e = .returned (.bool true) ∧ Below W.heap.size W w' := by
  go_enter Tryz.func34, Tryz.ntmps34
  go_wp2_with fail
  go_loopw [3] (fun vi wr => vi = .int .i64 0 ∧ Hid (Below W.heap.size W wr)) (fun _ _ => 0)
  case atStart => exact ⟨rfl, Lib.hid (Below.refl _ _)⟩
  case round =>
  obtain ⟨rfl, HB⟩ := hrel
  have q1 : decide ((0 : Int) < 0) = false := by decide
  have K1 := Lib.hid (grownAcl_nil wr 1)
  go_wp2_with fail
  refine K1.out.mono ?_
  rintro e w2 ⟨rfl, hB2⟩
  have HB2 := Lib.hid (below_step HB.out hB2)
  have K2 := Lib.hid (grownAcl_nil w2 24)
  clear hB2 K1 HB
  go_wp2_with fail
  refine K2.out.mono ?_
  rintro e w3 ⟨rfl, hB3⟩
  have HB3 := Lib.hid (below_step HB2.out hB3)
  clear hB3 K2 HB2
  go_wp2
  go_ret
  exact ⟨rfl, HB3.out⟩
theorem grownRequests_nil (W : World) (by_ : Int) : Calls Tryz.prog 69 #[.slice none 0 0, .int .i64 by_] W fun e w' => e = .returned (.bool true) ∧ Below W.heap.size W w' := by
  go_enter Tryz.func69, Tryz.ntmps69
  go_wp2_with fail
  go_loopw [5, 6] (fun vm vi wr => vm = .slice none 0 0 ∧ vi = .int .i64 0 ∧ Hid (Below W.heap.size W wr)) (fun _ _ _ => 0)
  case atStart => exact ⟨rfl, rfl, Lib.hid (Below.refl _ _)⟩
  case round =>
  obtain ⟨rfl, rfl, HB⟩ := hrel
  have q1 : decide ((0 : Int) < 0) = false := by decide
  go_wp2_with fail
  go_loopw [9] (fun vi wr => vi = .int .i64 0 ∧ Hid (Below W.heap.size W wr)) (fun _ _ => 0)
  case atStart => exact ⟨rfl, HB⟩
  case round =>
  clear HB
  obtain ⟨rfl, HB⟩ := hrel
  go_wp2
  go_ret
  exact ⟨rfl, HB.out⟩
theorem apartRequests_nil (W : World) : Calls Tryz.prog 35 #[.slice none 0 0] W fun e w' => e = .returned (.bool true) ∧ Below W.heap.size W w' := by
  go_enter Tryz.func35, Tryz.ntmps35
  go_wp2_with fail
  go_loopw [3] (fun vi wr => vi = .int .i64 0 ∧ Hid (Below W.heap.size W wr)) (fun _ _ => 0)
  case atStart => exact ⟨rfl, Lib.hid (Below.refl _ _)⟩
  case round =>
  obtain ⟨rfl, HB⟩ := hrel
  have q1 : decide ((0 : Int) < 0) = false := by decide
  have K1 := Lib.hid (grownRequests_nil wr 1)
  go_wp2_with fail
  refine K1.out.mono ?_
  rintro e w2 ⟨rfl, hB2⟩
  have HB2 := Lib.hid (below_step HB.out hB2)
  have K2 := Lib.hid (grownRequests_nil w2 24)
  clear hB2 K1 HB
  go_wp2_with fail
  refine K2.out.mono ?_
  rintro e w3 ⟨rfl, hB3⟩
  have HB3 := Lib.hid (below_step HB2.out hB3)
  clear hB3 K2 HB2
  go_wp2
  go_ret
  exact ⟨rfl, HB3.out⟩
theorem grownTxns_nil (W : World) (by_ : Int) : Calls Tryz.prog 70 #[.slice none 0 0, .int .i64 by_] W fun e w' => e = .returned (.bool true) ∧ Below W.heap.size W w' := by
  go_enter Tryz.func70, Tryz.ntmps70
  go_wp2_with fail
  go_loopw [5, 6] (fun vm vi wr => vm = .slice none 0 0 ∧ vi = .int .i64 0 ∧ Hid (Below W.heap.size W wr)) (fun _ _ _ => 0)
  case atStart => exact ⟨rfl, rfl, Lib.hid (Below.refl _ _)⟩
  case round =>
  obtain ⟨rfl, rfl, HB⟩ := hrel
  have q1 : decide ((0 : Int) < 0) = false := by decide
  go_wp2_with fail
  go_loopw [9] (fun vi wr => vi = .int .i64 0 ∧ Hid (Below W.heap.size W wr)) (fun _ _ => 0)
  case atStart => exact ⟨rfl, HB⟩
  case round =>
  clear HB
  obtain ⟨rfl, HB⟩ := hrel
  go_wp2
  go_ret
  exact ⟨rfl, HB.out⟩
theorem apartTxns_nil (W : World) : Calls Tryz.prog 36 #[.slice none 0 0] W fun e w' => e = .returned (.bool true) ∧ Below W.heap.size W w' := by
  go_enter Tryz.func36, Tryz.ntmps36
  go_wp2_with fail
  go_loopw [3] (fun vi wr => vi = .int .i64 0 ∧ Hid (Below W.heap.size W wr)) (fun _ _ => 0)
  case atStart => exact ⟨rfl, Lib.hid (Below.refl _ _)⟩
  case round =>
  obtain ⟨rfl, HB⟩ := hrel
  have q1 : decide ((0 : Int) < 0) = false := by decide
  have K1 := Lib.hid (grownTxns_nil wr 1)
  go_wp2_with fail
  refine K1.out.mono ?_
  rintro e w2 ⟨rfl, hB2⟩
  have HB2 := Lib.hid (below_step HB.out hB2)
  have K2 := Lib.hid (grownTxns_nil w2 24)
  clear hB2 K1 HB
  go_wp2_with fail
  refine K2.out.mono ?_
  rintro e w3 ⟨rfl, hB3⟩
  have HB3 := Lib.hid (below_step HB2.out hB3)
  clear hB3 K2 HB2
  go_wp2
  go_ret
  exact ⟨rfl, HB3.out⟩
theorem grownResults_nil (W : World) (by_ : Int) : Calls Tryz.prog 71 #[.slice none 0 0, .int .i64 by_] W fun e w' => e = .returned (.bool true) ∧ Below W.heap.size W w' := by
  go_enter Tryz.func71, Tryz.ntmps71
  go_wp2_with fail
  go_loopw [5, 6] (fun vm vi wr => vm = .slice none 0 0 ∧ vi = .int .i64 0 ∧ Hid (Below W.heap.size W wr)) (fun _ _ _ => 0)
  case atStart => exact ⟨rfl, rfl, Lib.hid (Below.refl _ _)⟩
  case round =>
  obtain ⟨rfl, rfl, HB⟩ := hrel
  have q1 : decide ((0 : Int) < 0) = false := by decide
  go_wp2_with fail
  go_loopw [9] (fun vi wr => vi = .int .i64 0 ∧ Hid (Below W.heap.size W wr)) (fun _ _ => 0)
  case atStart => exact ⟨rfl, HB⟩
  case round =>
  clear HB
  obtain ⟨rfl, HB⟩ := hrel
  go_wp2
  go_ret
  exact ⟨rfl, HB.out⟩
theorem apartResults_nil (W : World) : Calls Tryz.prog 37 #[.slice none 0 0] W fun e w' => e = .returned (.bool true) ∧ Below W.heap.size W w' := by
  go_enter Tryz.func37, Tryz.ntmps37
  go_wp2_with fail
  go_loopw [3] (fun vi wr => vi = .int .i64 0 ∧ Hid (Below W.heap.size W wr)) (fun _ _ => 0)
  case atStart => exact ⟨rfl, Lib.hid (Below.refl _ _)⟩
  case round =>
  obtain ⟨rfl, HB⟩ := hrel
  have q1 : decide ((0 : Int) < 0) = false := by decide
  have K1 := Lib.hid (grownResults_nil wr 1)
  go_wp2_with fail
  refine K1.out.mono ?_
  rintro e w2 ⟨rfl, hB2⟩
  have HB2 := Lib.hid (below_step HB.out hB2)
  have K2 := Lib.hid (grownResults_nil w2 24)
  clear hB2 K1 HB
  go_wp2_with fail
  refine K2.out.mono ?_
  rintro e w3 ⟨rfl, hB3⟩
  have HB3 := Lib.hid (below_step HB2.out hB3)
  clear hB3 K2 HB2
  go_wp2
  go_ret
  exact ⟨rfl, HB3.out⟩
theorem grownNodes_nil (W : World) (by_ : Int) : Calls Tryz.prog 72 #[.slice none 0 0, .int .i64 by_] W fun e w' => e = .returned (.bool true) ∧ Below W.heap.size W w' := by
  go_enter Tryz.func72, Tryz.ntmps72
  go_wp2_with fail
  go_loopw [5, 6] (fun vm vi wr => vm = .slice none 0 0 ∧ vi = .int .i64 0 ∧ Hid (Below W.heap.size W wr)) (fun _ _ _ => 0)
  case atStart => exact ⟨rfl, rfl, Lib.hid (Below.refl _ _)⟩
  case round =>
  obtain ⟨rfl, rfl, HB⟩ := hrel
  have q1 : decide ((0 : Int) < 0) = false := by decide
  go_wp2_with fail
  go_loopw [9] (fun vi wr => vi = .int .i64 0 ∧ Hid (Below W.heap.size W wr)) (fun _ _ => 0)
  case atStart => exact ⟨rfl, HB⟩
  case round =>
  clear HB
  obtain ⟨rfl, HB⟩ := hrel
  go_wp2
  go_ret
  exact ⟨rfl, HB.out⟩
theorem apartNodes_nil (W : World) : Calls Tryz.prog 38 #[.slice none 0 0] W fun e w' => e = .returned (.bool true) ∧ Below W.heap.size W w' := by
  go_enter Tryz.func38, Tryz.ntmps38
  go_wp2_with fail
  go_loopw [3] (fun vi wr => vi = .int .i64 0 ∧ Hid (Below W.heap.size W wr)) (fun _ _ => 0)
  case atStart => exact ⟨rfl, Lib.hid (Below.refl _ _)⟩
  case round =>
  obtain ⟨rfl, HB⟩ := hrel
  have q1 : decide ((0 : Int) < 0) = false := by decide
  have K1 := Lib.hid (grownNodes_nil wr 1)
  go_wp2_with fail
  refine K1.out.mono ?_
  rintro e w2 ⟨rfl, hB2⟩
  have HB2 := Lib.hid (below_step HB.out hB2)
  have K2 := Lib.hid (grownNodes_nil w2 24)
  clear hB2 K1 HB
  go_wp2_with fail
  refine K2.out.mono ?_
  rintro e w3 ⟨rfl, hB3⟩
  have HB3 := Lib.hid (below_step HB2.out hB3)
  clear hB3 K2 HB2
  go_wp2
  go_ret
  exact ⟨rfl, HB3.out⟩
theorem grownSessions_nil (W : World) (by_ : Int) : Calls Tryz.prog 73 #[.slice none 0 0, .int .i64 by_] W fun e w' => e = .returned (.bool true) ∧ Below W.heap.size W w' := by
  go_enter Tryz.func73, Tryz.ntmps73
  go_wp2_with fail
  go_loopw [5, 6] (fun vm vi wr => vm = .slice none 0 0 ∧ vi = .int .i64 0 ∧ Hid (Below W.heap.size W wr)) (fun _ _ _ => 0)
  case atStart => exact ⟨rfl, rfl, Lib.hid (Below.refl _ _)⟩
  case round =>
  obtain ⟨rfl, rfl, HB⟩ := hrel
  have q1 : decide ((0 : Int) < 0) = false := by decide
  go_wp2_with fail
  go_loopw [9] (fun vi wr => vi = .int .i64 0 ∧ Hid (Below W.heap.size W wr)) (fun _ _ => 0)
  case atStart => exact ⟨rfl, HB⟩
  case round =>
  clear HB
  obtain ⟨rfl, HB⟩ := hrel
  go_wp2
  go_ret
  exact ⟨rfl, HB.out⟩
theorem apartSessions_nil (W : World) : Calls Tryz.prog 39 #[.slice none 0 0] W fun e w' => e = .returned (.bool true) ∧ Below W.heap.size W w' := by
  go_enter Tryz.func39, Tryz.ntmps39
  go_wp2_with fail
  go_loopw [3] (fun vi wr => vi = .int .i64 0 ∧ Hid (Below W.heap.size W wr)) (fun _ _ => 0)
  case atStart => exact ⟨rfl, Lib.hid (Below.refl _ _)⟩
  case round =>
  obtain ⟨rfl, HB⟩ := hrel
  have q1 : decide ((0 : Int) < 0) = false := by decide
  have K1 := Lib.hid (grownSessions_nil wr 1)
  go_wp2_with fail
  refine K1.out.mono ?_
  rintro e w2 ⟨rfl, hB2⟩
  have HB2 := Lib.hid (below_step HB.out hB2)
  have K2 := Lib.hid (grownSessions_nil w2 24)
  clear hB2 K1 HB
  go_wp2_with fail
  refine K2.out.mono ?_
  rintro e w3 ⟨rfl, hB3⟩
  have HB3 := Lib.hid (below_step HB2.out hB3)
  clear hB3 K2 HB2
  go_wp2
  go_ret
  exact ⟨rfl, HB3.out⟩
theorem grownChanges_nil (W : World) (by_ : Int) : Calls Tryz.prog 74 #[.slice none 0 0, .int .i64 by_] W fun e w' => e = .returned (.bool true) ∧ Below W.heap.size W w' := by
  go_enter Tryz.func74, Tryz.ntmps74
  go_wp2_with fail
  go_loopw [5, 6] (fun vm vi wr => vm = .slice none 0 0 ∧ vi = .int .i64 0 ∧ Hid (Below W.heap.size W wr)) (fun _ _ _ => 0)
  case atStart => exact ⟨rfl, rfl, Lib.hid (Below.refl _ _)⟩
  case round =>
  obtain ⟨rfl, rfl, HB⟩ := hrel
  have q1 : decide ((0 : Int) < 0) = false := by decide
  go_wp2_with fail
  go_loopw [9] (fun vi wr => vi = .int .i64 0 ∧ Hid (Below W.heap.size W wr)) (fun _ _ => 0)
  case atStart => exact ⟨rfl, HB⟩
  case round =>
  clear HB
  obtain ⟨rfl, HB⟩ := hrel
  go_wp2
  go_ret
  exact ⟨rfl, HB.out⟩
theorem apartChanges_nil (W : World) : Calls Tryz.prog 40 #[.slice none 0 0] W fun e w' => e = .returned (.bool true) ∧ Below W.heap.size W w' := by
  go_enter Tryz.func40, Tryz.ntmps40
  go_wp2_with fail
  go_loopw [3] (fun vi wr => vi = .int .i64 0 ∧ Hid (Below W.heap.size W wr)) (fun _ _ => 0)
  case atStart => exact ⟨rfl, Lib.hid (Below.refl _ _)⟩
  case round =>
  obtain ⟨rfl, HB⟩ := hrel
  have q1 : decide ((0 : Int) < 0) = false := by decide
  have K1 := Lib.hid (grownChanges_nil wr 1)
  go_wp2_with fail
  refine K1.out.mono ?_
  rintro e w2 ⟨rfl, hB2⟩
  have HB2 := Lib.hid (below_step HB.out hB2)
  have K2 := Lib.hid (grownChanges_nil w2 24)
  clear hB2 K1 HB
  go_wp2_with fail
  refine K2.out.mono ?_
  rintro e w3 ⟨rfl, hB3⟩
  have HB3 := Lib.hid (below_step HB2.out hB3)
  clear hB3 K2 HB2
  go_wp2
  go_ret
  exact ⟨rfl, HB3.out⟩
theorem grownFiles_nil (W : World) (by_ : Int) : Calls Tryz.prog 75 #[.slice none 0 0, .int .i64 by_] W fun e w' => e = .returned (.bool true) ∧ Below W.heap.size W w' := by
  go_enter Tryz.func75, Tryz.ntmps75
  go_wp2_with fail
  go_loopw [5, 6] (fun vm vi wr => vm = .slice none 0 0 ∧ vi = .int .i64 0 ∧ Hid (Below W.heap.size W wr)) (fun _ _ _ => 0)
  case atStart => exact ⟨rfl, rfl, Lib.hid (Below.refl _ _)⟩
  case round =>
  obtain ⟨rfl, rfl, HB⟩ := hrel
  have q1 : decide ((0 : Int) < 0) = false := by decide
  go_wp2_with fail
  go_loopw [9] (fun vi wr => vi = .int .i64 0 ∧ Hid (Below W.heap.size W wr)) (fun _ _ => 0)
  case atStart => exact ⟨rfl, HB⟩
  case round =>
  clear HB
  obtain ⟨rfl, HB⟩ := hrel
  go_wp2
  go_ret
  exact ⟨rfl, HB.out⟩
theorem apartFiles_nil (W : World) : Calls Tryz.prog 41 #[.slice none 0 0] W fun e w' => e = .returned (.bool true) ∧ Below W.heap.size W w' := by
  go_enter Tryz.func41, Tryz.ntmps41
  go_wp2_with fail
  go_loopw [3] (fun vi wr => vi = .int .i64 0 ∧ Hid (Below W.heap.size W wr)) (fun _ _ => 0)
  case atStart => exact ⟨rfl, Lib.hid (Below.refl _ _)⟩
  case round =>
  obtain ⟨rfl, HB⟩ := hrel
  have q1 : decide ((0 : Int) < 0) = false := by decide
  have K1 := Lib.hid (grownFiles_nil wr 1)
  go_wp2_with fail
  refine K1.out.mono ?_
  rintro e w2 ⟨rfl, hB2⟩
  have HB2 := Lib.hid (below_step HB.out hB2)
  have K2 := Lib.hid (grownFiles_nil w2 24)
  clear hB2 K1 HB
  go_wp2_with fail
  refine K2.out.mono ?_
  rintro e w3 ⟨rfl, hB3⟩
  have HB3 := Lib.hid (below_step HB2.out hB3)
  clear hB3 K2 HB2
  go_wp2
  go_ret
  exact ⟨rfl, HB3.out⟩
theorem grownPackets_nil (W : World) (by_ : Int) : Calls Tryz.prog 76 #[.slice none 0 0, .int .i64 by_] W fun e w' => e = .returned (.bool true) ∧ Below W.heap.size W w' := by
  go_enter Tryz.func76, Tryz.ntmps76
  go_wp2_with fail
  go_loopw [5, 6] (fun vm vi wr => vm = .slice none 0 0 ∧ vi = .int .i64 0 ∧ Hid (Below W.heap.size W wr)) (fun _ _ _ => 0)
  case atStart => exact ⟨rfl, rfl, Lib.hid (Below.refl _ _)⟩
  case round =>
  obtain ⟨rfl, rfl, HB⟩ := hrel
  have q1 : decide ((0 : Int) < 0) = false := by decide
  go_wp2_with fail
  go_loopw [9] (fun vi wr => vi = .int .i64 0 ∧ Hid (Below W.heap.size W wr)) (fun _ _ => 0)
  case atStart => exact ⟨rfl, HB⟩
  case round =>
  clear HB
  obtain ⟨rfl, HB⟩ := hrel
  go_wp2
  go_ret
  exact ⟨rfl, HB.out⟩
theorem apartPackets_nil (W : World) : Calls Tryz.prog 42 #[.slice none 0 0] W fun e w' => e = .returned (.bool true) ∧ Below W.heap.size W w' := by
  go_enter Tryz.func42, Tryz.ntmps42
  go_wp2_with fail
  go_loopw [3] (fun vi wr => vi = .int .i64 0 ∧ Hid (Below W.heap.size W wr)) (fun _ _ => 0)
  case atStart => exact ⟨rfl, Lib.hid (Below.refl _ _)⟩
  case round =>
  obtain ⟨rfl, HB⟩ := hrel
  have q1 : decide ((0 : Int) < 0) = false := by decide
  have K1 := Lib.hid (grownPackets_nil wr 1)
  go_wp2_with fail
  refine K1.out.mono ?_
  rintro e w2 ⟨rfl, hB2⟩
  have HB2 := Lib.hid (below_step HB.out hB2)
  have K2 := Lib.hid (grownPackets_nil w2 24)
  clear hB2 K1 HB
  go_wp2_with fail
  refine K2.out.mono ?_
  rintro e w3 ⟨rfl, hB3⟩
  have HB3 := Lib.hid (below_step HB2.out hB3)
  clear hB3 K2 HB2
  go_wp2
  go_ret
  exact ⟨rfl, HB3.out⟩
theorem grownMessages_nil (W : World) (by_ : Int) : Calls Tryz.prog 77 #[.slice none 0 0, .int .i64 by_] W fun e w' => e = .returned (.bool true) ∧ Below W.heap.size W w' := by
  go_enter Tryz.func77, Tryz.ntmps77
  go_wp2_with fail
  go_loopw [5, 6] (fun vm vi wr => vm = .slice none 0 0 ∧ vi = .int .i64 0 ∧ Hid (Below W.heap.size W wr)) (fun _ _ _ => 0)
  case atStart => exact ⟨rfl, rfl, Lib.hid (Below.refl _ _)⟩
  case round =>
  obtain ⟨rfl, rfl, HB⟩ := hrel
  have q1 : decide ((0 : Int) < 0) = false := by decide
  go_wp2_with fail
  go_loopw [9] (fun vi wr => vi = .int .i64 0 ∧ Hid (Below W.heap.size W wr)) (fun _ _ => 0)
  case atStart => exact ⟨rfl, HB⟩
  case round =>
  clear HB
  obtain ⟨rfl, HB⟩ := hrel
  go_wp2
  go_ret
  exact ⟨rfl, HB.out⟩
theorem apartMessages_nil (W : World) : Calls Tryz.prog 43 #[.slice none 0 0] W fun e w' => e = .returned (.bool true) ∧ Below W.heap.size W w' := by
  go_enter Tryz.func43, Tryz.ntmps43
  go_wp2_with fail
  go_loopw [3] (fun vi wr => vi = .int .i64 0 ∧ Hid (Below W.heap.size W wr)) (fun _ _ => 0)
  case atStart => exact ⟨rfl, Lib.hid (Below.refl _ _)⟩
  case round =>
  obtain ⟨rfl, HB⟩ := hrel
  have q1 : decide ((0 : Int) < 0) = false := by decide
  have K1 := Lib.hid (grownMessages_nil wr 1)
  go_wp2_with fail
  refine K1.out.mono ?_
  rintro e w2 ⟨rfl, hB2⟩
  have HB2 := Lib.hid (below_step HB.out hB2)
  have K2 := Lib.hid (grownMessages_nil w2 24)
  clear hB2 K1 HB
  go_wp2_with fail
  refine K2.out.mono ?_
  rintro e w3 ⟨rfl, hB3⟩
  have HB3 := Lib.hid (below_step HB2.out hB3)
  clear hB3 K2 HB2
  go_wp2
  go_ret
  exact ⟨rfl, HB3.out⟩
theorem grownWatches_nil (W : World) (by_ : Int) : Calls Tryz.prog 78 #[.slice none 0 0, .int .i64 by_] W fun e w' => e = .returned (.bool true) ∧ Below W.heap.size W w' := by
  go_enter Tryz.func78, Tryz.ntmps78
  go_wp2_with fail
  go_loopw [5, 6] (fun vm vi wr => vm = .slice none 0 0 ∧ vi = .int .i64 0 ∧ Hid (Below W.heap.size W wr)) (fun _ _ _ => 0)
  case atStart => exact ⟨rfl, rfl, Lib.hid (Below.refl _ _)⟩
  case round =>
  obtain ⟨rfl, rfl, HB⟩ := hrel
  have q1 : decide ((0 : Int) < 0) = false := by decide
  go_wp2_with fail
  go_loopw [9] (fun vi wr => vi = .int .i64 0 ∧ Hid (Below W.heap.size W wr)) (fun _ _ => 0)
  case atStart => exact ⟨rfl, HB⟩
  case round =>
  clear HB
  obtain ⟨rfl, HB⟩ := hrel
  go_wp2
  go_ret
  exact ⟨rfl, HB.out⟩
theorem apartWatches_nil (W : World) : Calls Tryz.prog 44 #[.slice none 0 0] W fun e w' => e = .returned (.bool true) ∧ Below W.heap.size W w' := by
  go_enter Tryz.func44, Tryz.ntmps44
  go_wp2_with fail
  go_loopw [3] (fun vi wr => vi = .int .i64 0 ∧ Hid (Below W.heap.size W wr)) (fun _ _ => 0)
  case atStart => exact ⟨rfl, Lib.hid (Below.refl _ _)⟩
  case round =>
  obtain ⟨rfl, HB⟩ := hrel
  have q1 : decide ((0 : Int) < 0) = false := by decide
  have K1 := Lib.hid (grownWatches_nil wr 1)
  go_wp2_with fail
  refine K1.out.mono ?_
  rintro e w2 ⟨rfl, hB2⟩
  have HB2 := Lib.hid (below_step HB.out hB2)
  have K2 := Lib.hid (grownWatches_nil w2 24)
  clear hB2 K1 HB
  go_wp2_with fail
  refine K2.out.mono ?_
  rintro e w3 ⟨rfl, hB3⟩
  have HB3 := Lib.hid (below_step HB2.out hB3)
  clear hB3 K2 HB2
  go_wp2
  go_ret
  exact ⟨rfl, HB3.out⟩
theorem grownFired_nil (W : World) (by_ : Int) : Calls Tryz.prog 79 #[.slice none 0 0, .int .i64 by_] W fun e w' => e = .returned (.bool true) ∧ Below W.heap.size W w' := by
  go_enter Tryz.func79, Tryz.ntmps79
  go_wp2_with fail
  go_loopw [5, 6] (fun vm vi wr => vm = .slice none 0 0 ∧ vi = .int .i64 0 ∧ Hid (Below W.heap.size W wr)) (fun _ _ _ => 0)
  case atStart => exact ⟨rfl, rfl, Lib.hid (Below.refl _ _)⟩
  case round =>
  obtain ⟨rfl, rfl, HB⟩ := hrel
  have q1 : decide ((0 : Int) < 0) = false := by decide
  go_wp2_with fail
  go_loopw [9] (fun vi wr => vi = .int .i64 0 ∧ Hid (Below W.heap.size W wr)) (fun _ _ => 0)
  case atStart => exact ⟨rfl, HB⟩
  case round =>
  clear HB
  obtain ⟨rfl, HB⟩ := hrel
  go_wp2
  go_ret
  exact ⟨rfl, HB.out⟩
theorem apartFired_nil (W : World) : Calls Tryz.prog 45 #[.slice none 0 0] W fun e w' => e = .returned (.bool true) ∧ Below W.heap.size W w' := by
  go_enter Tryz.func45, Tryz.ntmps45
  go_wp2_with fail
  go_loopw [3] (fun vi wr => vi = .int .i64 0 ∧ Hid (Below W.heap.size W wr)) (fun _ _ => 0)
  case atStart => exact ⟨rfl, Lib.hid (Below.refl _ _)⟩
  case round =>
  obtain ⟨rfl, HB⟩ := hrel
  have q1 : decide ((0 : Int) < 0) = false := by decide
  have K1 := Lib.hid (grownFired_nil wr 1)
  go_wp2_with fail
  refine K1.out.mono ?_
  rintro e w2 ⟨rfl, hB2⟩
  have HB2 := Lib.hid (below_step HB.out hB2)
  have K2 := Lib.hid (grownFired_nil w2 24)
  clear hB2 K1 HB
  go_wp2_with fail
  refine K2.out.mono ?_
  rintro e w3 ⟨rfl, hB3⟩
  have HB3 := Lib.hid (below_step HB2.out hB3)
  clear hB3 K2 HB2
  go_wp2
  go_ret
  exact ⟨rfl, HB3.out⟩
theorem grownFacts_nil (W : World) (by_ : Int) : Calls Tryz.prog 80 #[.slice none 0 0, .int .i64 by_] W fun e w' => e = .returned (.bool true) ∧ Below W.heap.size W w' := by
  go_enter Tryz.func80, Tryz.ntmps80
  go_wp2_with fail
  go_loopw [5, 6] (fun vm vi wr => vm = .slice none 0 0 ∧ vi = .int .i64 0 ∧ Hid (Below W.heap.size W wr)) (fun _ _ _ => 0)
  case atStart => exact ⟨rfl, rfl, Lib.hid (Below.refl _ _)⟩
  case round =>
  obtain ⟨rfl, rfl, HB⟩ := hrel
  have q1 : decide ((0 : Int) < 0) = false := by decide
  go_wp2_with fail
  go_loopw [9] (fun vi wr => vi = .int .i64 0 ∧ Hid (Below W.heap.size W wr)) (fun _ _ => 0)
  case atStart => exact ⟨rfl, HB⟩
  case round =>
  clear HB
  obtain ⟨rfl, HB⟩ := hrel
  go_wp2
  go_ret
  exact ⟨rfl, HB.out⟩
theorem apartFacts_nil (W : World) : Calls Tryz.prog 46 #[.slice none 0 0] W fun e w' => e = .returned (.bool true) ∧ Below W.heap.size W w' := by
  go_enter Tryz.func46, Tryz.ntmps46
  go_wp2_with fail
  go_loopw [3] (fun vi wr => vi = .int .i64 0 ∧ Hid (Below W.heap.size W wr)) (fun _ _ => 0)
  case atStart => exact ⟨rfl, Lib.hid (Below.refl _ _)⟩
  case round =>
  obtain ⟨rfl, HB⟩ := hrel
  have q1 : decide ((0 : Int) < 0) = false := by decide
  have K1 := Lib.hid (grownFacts_nil wr 1)
  go_wp2_with fail
  refine K1.out.mono ?_
  rintro e w2 ⟨rfl, hB2⟩
  have HB2 := Lib.hid (below_step HB.out hB2)
  have K2 := Lib.hid (grownFacts_nil w2 24)
  clear hB2 K1 HB
  go_wp2_with fail
  refine K2.out.mono ?_
  rintro e w3 ⟨rfl, hB3⟩
  have HB3 := Lib.hid (below_step HB2.out hB3)
  clear hB3 K2 HB2
  go_wp2
  go_ret
  exact ⟨rfl, HB3.out⟩
theorem grownSends_nil (W : World) (by_ : Int) : Calls Tryz.prog 81 #[.slice none 0 0, .int .i64 by_] W fun e w' => e = .returned (.bool true) ∧ Below W.heap.size W w' := by
  go_enter Tryz.func81, Tryz.ntmps81
  go_wp2_with fail
  go_loopw [5, 6] (fun vm vi wr => vm = .slice none 0 0 ∧ vi = .int .i64 0 ∧ Hid (Below W.heap.size W wr)) (fun _ _ _ => 0)
  case atStart => exact ⟨rfl, rfl, Lib.hid (Below.refl _ _)⟩
  case round =>
  obtain ⟨rfl, rfl, HB⟩ := hrel
  have q1 : decide ((0 : Int) < 0) = false := by decide
  go_wp2_with fail
  go_loopw [9] (fun vi wr => vi = .int .i64 0 ∧ Hid (Below W.heap.size W wr)) (fun _ _ => 0)
  case atStart => exact ⟨rfl, HB⟩
  case round =>
  clear HB
  obtain ⟨rfl, HB⟩ := hrel
  go_wp2
  go_ret
  exact ⟨rfl, HB.out⟩
theorem apartSends_nil (W : World) : Calls Tryz.prog 47 #[.slice none 0 0] W fun e w' => e = .returned (.bool true) ∧ Below W.heap.size W w' := by
  go_enter Tryz.func47, Tryz.ntmps47
  go_wp2_with fail
  go_loopw [3] (fun vi wr => vi = .int .i64 0 ∧ Hid (Below W.heap.size W wr)) (fun _ _ => 0)
  case atStart => exact ⟨rfl, Lib.hid (Below.refl _ _)⟩
  case round =>
  obtain ⟨rfl, HB⟩ := hrel
  have q1 : decide ((0 : Int) < 0) = false := by decide
  have K1 := Lib.hid (grownSends_nil wr 1)
  go_wp2_with fail
  refine K1.out.mono ?_
  rintro e w2 ⟨rfl, hB2⟩
  have HB2 := Lib.hid (below_step HB.out hB2)
  have K2 := Lib.hid (grownSends_nil w2 24)
  clear hB2 K1 HB
  go_wp2_with fail
  refine K2.out.mono ?_
  rintro e w3 ⟨rfl, hB3⟩
  have HB3 := Lib.hid (below_step HB2.out hB3)
  clear hB3 K2 HB2
  go_wp2
  go_ret
  exact ⟨rfl, HB3.out⟩
theorem grownEvents_nil (W : World) (by_ : Int) : Calls Tryz.prog 82 #[.slice none 0 0, .int .i64 by_] W fun e w' => e = .returned (.bool true) ∧ Below W.heap.size W w' := by
  go_enter Tryz.func82, Tryz.ntmps82
  go_wp2_with fail
  go_loopw [5, 6] (fun vm vi wr => vm = .slice none 0 0 ∧ vi = .int .i64 0 ∧ Hid (Below W.heap.size W wr)) (fun _ _ _ => 0)
  case atStart => exact ⟨rfl, rfl, Lib.hid (Below.refl _ _)⟩
  case round =>
  obtain ⟨rfl, rfl, HB⟩ := hrel
  have q1 : decide ((0 : Int) < 0) = false := by decide
  go_wp2_with fail
  go_loopw [9] (fun vi wr => vi = .int .i64 0 ∧ Hid (Below W.heap.size W wr)) (fun _ _ => 0)
  case atStart => exact ⟨rfl, HB⟩
  case round =>
  clear HB
  obtain ⟨rfl, HB⟩ := hrel
  go_wp2
  go_ret
  exact ⟨rfl, HB.out⟩
theorem apartEvents_nil (W : World) : Calls Tryz.prog 48 #[.slice none 0 0] W fun e w' => e = .returned (.bool true) ∧ Below W.heap.size W w' := by
  go_enter Tryz.func48, Tryz.ntmps48
  go_wp2_with fail
  go_loopw [3] (fun vi wr => vi = .int .i64 0 ∧ Hid (Below W.heap.size W wr)) (fun _ _ => 0)
  case atStart => exact ⟨rfl, Lib.hid (Below.refl _ _)⟩
  case round =>
  obtain ⟨rfl, HB⟩ := hrel
  have q1 : decide ((0 : Int) < 0) = false := by decide
  have K1 := Lib.hid (grownEvents_nil wr 1)
  go_wp2_with fail
  refine K1.out.mono ?_
  rintro e w2 ⟨rfl, hB2⟩
  have HB2 := Lib.hid (below_step HB.out hB2)
  have K2 := Lib.hid (grownEvents_nil w2 24)
  clear hB2 K1 HB
  go_wp2_with fail
  refine K2.out.mono ?_
  rintro e w3 ⟨rfl, hB3⟩
  have HB3 := Lib.hid (below_step HB2.out hB3)
  clear hB3 K2 HB2
  go_wp2
  go_ret
  exact ⟨rfl, HB3.out⟩
theorem grownFactss_nil (W : World) (by_ : Int) : Calls Tryz.prog 83 #[.slice none 0 0, .int .i64 by_] W fun e w' => e = .returned (.bool true) ∧ Below W.heap.size W w' := by
  go_enter Tryz.func83, Tryz.ntmps83
  go_wp2_with fail
  go_loopw [5, 6] (fun vm vi wr => vm = .slice none 0 0 ∧ vi = .int .i64 0 ∧ Hid (Below W.heap.size W wr)) (fun _ _ _ => 0)
  case atStart => exact ⟨rfl, rfl, Lib.hid (Below.refl _ _)⟩
  case round =>
  obtain ⟨rfl, rfl, HB⟩ := hrel
  have q1 : decide ((0 : Int) < 0) = false := by decide
  go_wp2_with fail
  go_loopw [9] (fun vi wr => vi = .int .i64 0 ∧ Hid (Below W.heap.size W wr)) (fun _ _ => 0)
  case atStart => exact ⟨rfl, HB⟩
  case round =>
  clear HB
  obtain ⟨rfl, HB⟩ := hrel
  go_wp2
  go_ret
  exact ⟨rfl, HB.out⟩
theorem apartFactss_nil (W : World) : Calls Tryz.prog 49 #[.slice none 0 0] W fun e w' => e = .returned (.bool true) ∧ Below W.heap.size W w' := by
  go_enter Tryz.func49, Tryz.ntmps49
  go_wp2_with fail
  go_loopw [3] (fun vi wr => vi = .int .i64 0 ∧ Hid (Below W.heap.size W wr)) (fun _ _ => 0)
  case atStart => exact ⟨rfl, Lib.hid (Below.refl _ _)⟩
  case round =>
  obtain ⟨rfl, HB⟩ := hrel
  have q1 : decide ((0 : Int) < 0) = false := by decide
  have K1 := Lib.hid (grownFactss_nil wr 1)
  go_wp2_with fail
  refine K1.out.mono ?_
  rintro e w2 ⟨rfl, hB2⟩
  have HB2 := Lib.hid (below_step HB.out hB2)
  have K2 := Lib.hid (grownFactss_nil w2 24)
  clear hB2 K1 HB
  go_wp2_with fail
  refine K2.out.mono ?_
  rintro e w3 ⟨rfl, hB3⟩
  have HB3 := Lib.hid (below_step HB2.out hB3)
  clear hB3 K2 HB2
  go_wp2
  go_ret
  exact ⟨rfl, HB3.out⟩
end Go.Proofs.YtkhnjckkjdldbaaGreatDoor.Bag
