-- began as a section of the text YtgjgafibipepeaaGreatDoorPAclFixesx9, which print.sh printed; here in the namespace Pr
import Derived.Test.YtgjgafibipepeaaGreatDoorPr0
import Derived.Test.YtgjgafibipepeaaGreatDoorPr1
import Derived.Test.YtgjgafibipepeaaGreatDoorPr2
import Derived.Test.YtgjgafibipepeaaGreatDoorPr3
import Derived.Test.YtgjgafibipepeaaGreatDoorPr4
import Derived.Test.YtgjgafibipepeaaGreatDoorPr5
import Derived.Test.YtgjgafibipepeaaGreatDoorPr6
import Derived.Test.YtgjgafibipepeaaGreatDoorPr7
import Derived.Test.YtgjgafibipepeaaGreatDoorPr8
import Derived.Test.YtgjgafibipepeaaGreatDoorPr9
namespace Go.Proofs.YtgjgafibipepeaaGreatDoor.Pr
open Go.RowKit Go.Proofs.YtgjgafibipepeaaGreatDoorW.PrintWords Go.Proofs.YtgjgafibipepeaaGreatDoorW.PrintLast Go.Proofs.YtgjgafibipepeaaGreatDoorW.PrintMore
attribute [local go_sem] max2_int min2_int max_two min_two max_three min_three max_four min_four   -- for this text's walks alone
set_option linter.unusedVariables false
set_option linter.unusedSimpArgs false

attribute [local go_sem high] eqA41
/-! ### lagoonref00_CopyAcl: function 20 -/
def lagoonref00_CopyAcl.l0 : Nat → List (S41) → List (S41) → Int → Option ((List (S41)))
  | 0, _, _, _ => none
  | k + 1, x0, x3, x4 => if x4 < (x0.length : Int) then (if 0 ≤ x4 then (if x3.length < 3518437208883 then (lagoonref00_CopyAcl.l0 k x0 (x3 ++ [(⟨(rd_T41 x0 x4).f0, (⟨(rd_T41 x0 x4).f1.f0, (rd_T41 x0 x4).f1.f1⟩ : S39)⟩ : S41)]) (wrap64 (x4 + 1))) else (none)) else (none)) else (some x3)
def lagoonref00_CopyAcl.f (k : Nat) (l0 : List (S41)) : Option ((List (S41))) := lagoonref00_CopyAcl.l0 k l0 ([] : List (S41)) 0
set_option maxHeartbeats 8000000 in
set_option maxRecDepth 100000 in
theorem lagoonref00_CopyAcl.calls (k : Nat) (A0 : Option Addr) (c0 : Nat) (l0 : List (S41)) (r : List (S41)) (w : World) (hr0 : Kd.C k41 w A0 l0.length l0) (hc0 : l0.length ≤ c0) (h : lagoonref00_CopyAcl.f k l0 = some r) :
    Calls Tryz.prog 20 #[.slice A0 l0.length c0] w fun e w' => ∃ v0_ : Value, e = .returned (v0_) ∧ Kd.R k41 41 w' w.heap.size (fun _ => True) v0_ r ∧ Below w.heap.size w w' := by
  have hu41 := Tryz.underlying41
  have HR0 := Aside0.mk hr0
  have HC0 := Aside0.mk hc0
  clear hr0 hc0
  have HB := Aside0.mk (Below.refl w.heap.size w)
  have H : (lagoonref00_CopyAcl.l0 k l0 ([] : List (S41)) 0) = some r := h
  clear h
  have H' := Aside0.mk H
  clear H
  go_enter Tryz.func20, Tryz.ntmps20
  go_wp2
  go_loopg [3, 4] k (fun kq v3 v4 w' => ∃ (x3_1 : List (S41)) (x4_1 : Int), v4 = .int .i64 x4_1 ∧ Aside0 (lagoonref00_CopyAcl.l0 kq l0 x3_1 x4_1 = some r) ∧ Aside0 (kq ≤ k) ∧ Aside0 (Kd.R k41 41 w' w.heap.size (fun _ => True) v3 x3_1) ∧ Aside0 (Below w.heap.size w w'))
  case atStart => exact ⟨(([] : List (S41))), (0), (by first | rfl | (simp; done) | (simp [*]; done)), H', ⟨Nat.le_refl _⟩, ⟨by first | exact Kd.R_nil _ _ _ _ _ | exact Kd.N_nil _ _ _ _ _ | exact Kd.V_nil _ _ _ _ _ | exact Kd.Q_nil _ _ _ _ _ | exact Kd.S_nil _ _ _ _ _⟩, ⟨by repeat (first | (with_reducible first | exact HB.out | apply below_alloc | apply pw_below_drewN | apply below_drew1) | exact HB.out)⟩⟩
  case round =>
    clear H'
    obtain ⟨x3_1, x4_1, rfl, HA, HK1, HO_3, HB⟩ := hrel
    cases gk with
    | zero => exact absurd HA.out (by simp [lagoonref00_CopyAcl.l0])
    | succ k1 =>
      have H := HA.out
      clear HA
      simp only [lagoonref00_CopyAcl.l0] at H
      by_cases c2 : x4_1 < (l0.length : Int)
      · rw [if_pos c2] at H
        have c2b0 : decide (x4_1 < (l0.length : Int)) = true := decide_eq_true c2
        clear c2
        by_cases c3 : 0 ≤ x4_1
        · rw [if_pos c3] at H
          have c3b0 : decide (0 ≤ x4_1) = true := decide_eq_true c3
          clear c3
          by_cases c4 : x3_1.length < 3518437208883
          · rw [if_pos c4] at H
            have LMc4 := Aside0.mk c4
            clear c4
            obtain ⟨y239, hy239⟩ : ∃ y_ : List (S41), y_ = (x3_1 ++ [(⟨(rd_T41 l0 x4_1).f0, (⟨(rd_T41 l0 x4_1).f1.f0, (rd_T41 l0 x4_1).f1.f1⟩ : S39)⟩ : S41)]) := ⟨_, rfl⟩
            replace H : (lagoonref00_CopyAcl.l0 k1 l0 y239 (wrap64 (x4_1 + 1))) = some r := by first | (rw [hy239]; with_reducible exact H) | (have H2_ := (Option.bind_some _ _).symm.trans H; rw [hy239]; with_reducible exact H2_) | (have H2_ := (Option.bind_some _ _).symm.trans H; with_reducible exact H2_) | with_reducible exact H | (rw [hy239]; exact H) | exact H
            have Ny239 := Aside0.mk hy239
            clear hy239
            have H' := Aside0.mk H
            clear H
            have p238 : 0 ≤ (x4_1 : Int) := of_decide_eq_true (by first | (with_reducible assumption) | assumption)
            have q238 : x4_1 < (l0.length : Int) := of_decide_eq_true (by first | (with_reducible assumption) | assumption)
            obtain ⟨ad238, e238, hx238_0, hx238_1, hx238_2⟩ := at_T41 HR0.out x4_1 p238 q238
            cases e238
            replace hx238_0 := (HB.out.cell (World.block_lt_of_cell? w _ hx238_0)).trans hx238_0
            replace hx238_1 := (HB.out.cell (World.block_lt_of_cell? w _ hx238_1)).trans hx238_1
            replace hx238_2 := (HB.out.cell (World.block_lt_of_cell? w _ hx238_2)).trans hx238_2
            replace p238 := eq_true p238
            replace q238 := eq_true q238
            go_wp2_with (first | ((with_reducible refine gate_builtin (b := .append) (xs := #[.tmp 11, .tmp 16]) rfl ?_); at_builtin; refine Kd.R_append k41 (w0 := w) w.heap.size rfl (.tmp 11) (.tmp 16) 22 41 (.agg #[(.int .i8 0), (.string ⟨#[]⟩), (.string ⟨#[]⟩)]) 40 rfl Tryz.underlying22 info41 rfl (by decide) (by omega) u3 x3_1 (⟨(rd_T41 l0 x4_1).f0, (⟨(rd_T41 l0 x4_1).f1.f0, (rd_T41 l0 x4_1).f1.f1⟩ : S39)⟩ : S41) [.int .i8 ((rd_T41 l0 x4_1).f0), .string ((rd_T41 l0 x4_1).f1.f0), .string ((rd_T41 l0 x4_1).f1.f1)] (fun _ => True) (fun _ => False) rfl rfl ?aP (fun _ hk => hk.elim) ?aF ?aO ?aB ?aS ?aL ?_; (case aP => exact k41_mkM _ _ _ (⟨(rd_T41 l0 x4_1).f0, (⟨(rd_T41 l0 x4_1).f1.f0, (rd_T41 l0 x4_1).f1.f1⟩ : S39)⟩ : S41)); (case aB => exact (by repeat (first | (with_reducible first | exact HB.out | apply below_alloc | apply pw_below_drewN | apply below_drew1) | exact HB.out))); (case aF => exact (fun _ _ => trivial)); (case aO => exact (by (with_reducible repeat (first | apply Kd.R_alloc | apply Kd.R_drewN | apply Kd.R_drew)); exact HO_3.out)); (case aS => exact (below_size (by repeat (first | (with_reducible first | exact HB.out | apply below_alloc | apply pw_below_drewN | apply below_drew1) | exact HB.out)))); (case aL => have := LMc4.out; omega); intro v240 w5 ho hb hg hat; rw [← Ny239.out] at ho; have n0_ := Aside0.mk (hb); have n1_ := Aside0.mk (ho); clear HB; clear HO_3; have HB := n0_; have HO241 := n1_; clear n0_ n1_; clear ho hb hg hat))
            go_roundg k1
            case measure => have := HK1.out; omega
            case rel => exact ⟨(y239), (wrap64 (x4_1 + 1)), (by first | rfl | (simp; done) | (simp [*]; done)), H', ⟨by have := HK1.out; omega⟩, ⟨by (with_reducible repeat (first | apply Kd.R_alloc | apply Kd.R_drewN | apply Kd.R_drew)); exact HO241.out⟩, ⟨by repeat (first | (with_reducible first | exact HB.out | apply below_alloc | apply pw_below_drewN | apply below_drew1) | exact HB.out)⟩⟩
          · rw [if_neg c4] at H
            exact absurd H (by simp)
        · rw [if_neg c3] at H
          exact absurd H (by simp)
      · rw [if_neg c2] at H
        have c2b0 : decide (x4_1 < (l0.length : Int)) = false := decide_eq_false c2
        clear c2
        obtain rfl := Option.some.inj H
        go_wp2
        go_ret
        exact ⟨_, by first | rfl | (simp [errW_none, errW_some] <;> rfl) | (simp [*, errW_none, errW_some] <;> rfl), by (with_reducible repeat (first | apply Kd.R_alloc | apply Kd.R_drewN | apply Kd.R_drew)); exact HO_3.out, by repeat (first | (with_reducible first | exact HB.out | apply below_alloc | apply pw_below_drewN | apply below_drew1) | exact HB.out)⟩

-- NOT PRINTED: function 21 (lagoonref00_Bag_AddAcl)

-- NOT PRINTED: function 22 (lagoonref00_Bag_AddIds)

-- NOT PRINTED: function 75 (lagoonref00_grownBytes)

-- NOT PRINTED: function 41 (lagoonref00_apartBytes)

-- NOT PRINTED: function 76 (lagoonref00_grownInts)

-- NOT PRINTED: function 42 (lagoonref00_apartInts)

-- NOT PRINTED: function 77 (lagoonref00_grownTexts)

-- NOT PRINTED: function 43 (lagoonref00_apartTexts)

-- NOT PRINTED: function 78 (lagoonref00_grownPieces)

-- NOT PRINTED: function 44 (lagoonref00_apartPieces)

-- NOT PRINTED: function 79 (lagoonref00_grownIds)

-- NOT PRINTED: function 45 (lagoonref00_apartIds)

-- NOT PRINTED: function 80 (lagoonref00_grownAcl)

-- NOT PRINTED: function 46 (lagoonref00_apartAcl)

-- NOT PRINTED: function 81 (lagoonref00_grownRequests)

-- NOT PRINTED: function 47 (lagoonref00_apartRequests)

-- NOT PRINTED: function 82 (lagoonref00_grownTxns)

-- NOT PRINTED: function 48 (lagoonref00_apartTxns)

-- NOT PRINTED: function 83 (lagoonref00_grownResults)

-- NOT PRINTED: function 49 (lagoonref00_apartResults)

-- NOT PRINTED: function 84 (lagoonref00_grownNodes)

-- NOT PRINTED: function 50 (lagoonref00_apartNodes)

-- NOT PRINTED: function 85 (lagoonref00_grownSessions)

-- NOT PRINTED: function 51 (lagoonref00_apartSessions)

-- NOT PRINTED: function 86 (lagoonref00_grownChanges)

-- NOT PRINTED: function 52 (lagoonref00_apartChanges)

-- NOT PRINTED: function 87 (lagoonref00_grownFiles)

-- NOT PRINTED: function 53 (lagoonref00_apartFiles)

-- NOT PRINTED: function 88 (lagoonref00_grownPackets)

-- NOT PRINTED: function 54 (lagoonref00_apartPackets)

-- NOT PRINTED: function 89 (lagoonref00_grownMessages)

-- NOT PRINTED: function 55 (lagoonref00_apartMessages)

-- NOT PRINTED: function 90 (lagoonref00_grownWatches)

-- NOT PRINTED: function 56 (lagoonref00_apartWatches)

-- NOT PRINTED: function 91 (lagoonref00_grownFired)
end Go.Proofs.YtgjgafibipepeaaGreatDoor.Pr
