import Derived.Test.YtkhnjckkjdldbaaGreatDoorH
namespace Go.Proofs.YtkhnjckkjdldbaaGreatDoor.Pr
open Go.RowKit Go.Proofs.YtkhnjckkjdldbaaGreatDoorW.PrintWords Go.Proofs.YtkhnjckkjdldbaaGreatDoorW.PrintLast Go.Proofs.YtkhnjckkjdldbaaGreatDoorW.PrintMore
set_option linter.unusedVariables false
set_option linter.unusedSimpArgs false
/-! ### lagoonref05_Below: function 16 -/
def lagoonref05_Below.f (k : Nat) (a0 : ByteArray) (a1 : ByteArray) : Option (Bool) := (lagoonref05_Is.f k a0).bind fun t113 => (if t113 = true then ((lagoonref05_Is.f k a1).bind fun t114 => (if t114 = true then (if a0.toList = ([47] : List UInt8) then (some false) else (if a1.toList = ([47] : List UInt8) then (some true) else (if (a0.size : Int) > (a1.size : Int) then (if 0 ≤ (a1.size : Int) then (if (a1.size : Int) ≤ (a0.size : Int) then (if (a0.extract 0 ((a1.size : Int) : Int).toNat).toList = a1.toList then (if (a1.size : Int) < (a0.size : Int) then (some ((bt a0 (a1.size : Int)) == 47)) else (none)) else (some false)) else (none)) else (none)) else (some false)))) else (some false))) else (some false))
set_option maxHeartbeats 8000000 in
set_option maxRecDepth 100000 in
theorem lagoonref05_Below.calls (k : Nat) (a0 : ByteArray) (a1 : ByteArray) (r : Bool) (w : World) (h : lagoonref05_Below.f k a0 a1 = some r) :
    Calls Tryz.prog 86 #[.string a0, .string a1] w fun e w' => e = .returned (.bool r) ∧ Below w.heap.size w w' := by
  have HB := Aside0.mk (Below.refl w.heap.size w)
  have H : ((lagoonref05_Is.f k a0).bind fun t113 => (if t113 = true then ((lagoonref05_Is.f k a1).bind fun t114 => (if t114 = true then (if a0.toList = ([47] : List UInt8) then (some false) else (if a1.toList = ([47] : List UInt8) then (some true) else (if (a0.size : Int) > (a1.size : Int) then (if 0 ≤ (a1.size : Int) then (if (a1.size : Int) ≤ (a0.size : Int) then (if (a0.extract 0 ((a1.size : Int) : Int).toNat).toList = a1.toList then (if (a1.size : Int) < (a0.size : Int) then (some ((bt a0 (a1.size : Int)) == 47)) else (none)) else (some false)) else (none)) else (none)) else (some false)))) else (some false))) else (some false))) = some r := h
  clear h
  replace H := Option.bind_eq_some_iff.mp H
  obtain ⟨t113, A30, H⟩ := H
  replace H : (if t113 = true then ((lagoonref05_Is.f k a1).bind fun t114 => (if t114 = true then (if a0.toList = ([47] : List UInt8) then (some false) else (if a1.toList = ([47] : List UInt8) then (some true) else (if (a0.size : Int) > (a1.size : Int) then (if 0 ≤ (a1.size : Int) then (if (a1.size : Int) ≤ (a0.size : Int) then (if (a0.extract 0 ((a1.size : Int) : Int).toNat).toList = a1.toList then (if (a1.size : Int) < (a0.size : Int) then (some ((bt a0 (a1.size : Int)) == 47)) else (none)) else (some false)) else (none)) else (none)) else (some false)))) else (some false))) else (some false)) = some r := H
  have A3 := Aside0.mk A30
  clear A30
  by_cases c4 : t113 = true
  · subst c4
    have H1 : ((lagoonref05_Is.f k a1).bind fun t114 => (if t114 = true then (if a0.toList = ([47] : List UInt8) then (some false) else (if a1.toList = ([47] : List UInt8) then (some true) else (if (a0.size : Int) > (a1.size : Int) then (if 0 ≤ (a1.size : Int) then (if (a1.size : Int) ≤ (a0.size : Int) then (if (a0.extract 0 ((a1.size : Int) : Int).toNat).toList = a1.toList then (if (a1.size : Int) < (a0.size : Int) then (some ((bt a0 (a1.size : Int)) == 47)) else (none)) else (some false)) else (none)) else (none)) else (some false)))) else (some false))) = some r := by rw [if_pos rfl] at H; exact H
    clear H
    have H := H1
    clear H1
    replace H := Option.bind_eq_some_iff.mp H
    obtain ⟨t114, A50, H⟩ := H
    replace H : (if t114 = true then (if a0.toList = ([47] : List UInt8) then (some false) else (if a1.toList = ([47] : List UInt8) then (some true) else (if (a0.size : Int) > (a1.size : Int) then (if 0 ≤ (a1.size : Int) then (if (a1.size : Int) ≤ (a0.size : Int) then (if (a0.extract 0 ((a1.size : Int) : Int).toNat).toList = a1.toList then (if (a1.size : Int) < (a0.size : Int) then (some ((bt a0 (a1.size : Int)) == 47)) else (none)) else (some false)) else (none)) else (none)) else (some false)))) else (some false)) = some r := H
    have A5 := Aside0.mk A50
    clear A50
    by_cases c6 : t114 = true
    · subst c6
      have H1 : (if a0.toList = ([47] : List UInt8) then (some false) else (if a1.toList = ([47] : List UInt8) then (some true) else (if (a0.size : Int) > (a1.size : Int) then (if 0 ≤ (a1.size : Int) then (if (a1.size : Int) ≤ (a0.size : Int) then (if (a0.extract 0 ((a1.size : Int) : Int).toNat).toList = a1.toList then (if (a1.size : Int) < (a0.size : Int) then (some ((bt a0 (a1.size : Int)) == 47)) else (none)) else (some false)) else (none)) else (none)) else (some false)))) = some r := by rw [if_pos rfl] at H; exact H
      clear H
      have H := H1
      clear H1
      by_cases c7 : a0.toList = ([47] : List UInt8)
      · rw [if_pos c7] at H
        have c7b0 : (a0.toList == ([47] : List UInt8)) = true := beq_iff_eq.mpr c7
        have c7b1 : (a0.toList != ([47] : List UInt8)) = false := bne_eq_false_iff_eq.mpr c7
        clear c7
        obtain rfl := Option.some.inj H
        go_enter Tryz.func86, Tryz.ntmps86
        go_wp2_with (first | ((with_reducible refine gate_callee (f := 101) rfl ?_); refine goesL_ (some 7) rfl rfl Tryz.func101 (by kernel_rfl) rfl #[.string a0] rfl (by (try simp only [List.map_toArray, List.map_cons, List.map_nil]); first | done | rfl | (simp only [List.length_drop, List.length_take]; rfl)) ?_; (with_reducible refine (lagoonref05_Is.calls k a0 true _ A3.out).mono ?_); rintro e w8 ⟨rfl, hb⟩; refine ⟨_, rfl, ?_⟩; have n0_ := Aside0.mk (below_step (by repeat (first | (with_reducible first | exact HB.out | apply below_alloc | apply pw_below_drewN | apply below_drew1) | exact HB.out)) hb); clear HB; have HB := n0_; clear n0_; (try clear hb); (try clear hb2); (try clear hk); (try clear hi)) | (go_at_call 101; (with_reducible refine (lagoonref05_Is.calls k a1 true _ A5.out).mono ?_); rintro e w9 ⟨rfl, hb⟩; have n0_ := Aside0.mk (below_step (by repeat (first | (with_reducible first | exact HB.out | apply below_alloc | apply pw_below_drewN | apply below_drew1) | exact HB.out)) hb); clear HB; have HB := n0_; clear n0_; (try clear hb); (try clear hb2); (try clear hk); (try clear hi)))
        go_ret
        exact ⟨by first | rfl | (simp [errW_none, errW_some] <;> rfl) | (simp [*, errW_none, errW_some] <;> rfl), by repeat (first | (with_reducible first | exact HB.out | apply below_alloc | apply pw_below_drewN | apply below_drew1) | exact HB.out)⟩
      · rw [if_neg c7] at H
        have c7b0 : (a0.toList == ([47] : List UInt8)) = false := beq_eq_false_iff_ne.mpr c7
        have c7b1 : (a0.toList != ([47] : List UInt8)) = true := bne_iff_ne.mpr c7
        by_cases c10 : a1.toList = ([47] : List UInt8)
        · rw [if_pos c10] at H
          have c10b0 : (a1.toList == ([47] : List UInt8)) = true := beq_iff_eq.mpr c10
          have c10b1 : (a1.toList != ([47] : List UInt8)) = false := bne_eq_false_iff_eq.mpr c10
          clear c10
          obtain rfl := Option.some.inj H
          go_enter Tryz.func86, Tryz.ntmps86
          go_wp2_with (first | ((with_reducible refine gate_callee (f := 101) rfl ?_); refine goesL_ (some 7) rfl rfl Tryz.func101 (by kernel_rfl) rfl #[.string a0] rfl (by (try simp only [List.map_toArray, List.map_cons, List.map_nil]); first | done | rfl | (simp only [List.length_drop, List.length_take]; rfl)) ?_; (with_reducible refine (lagoonref05_Is.calls k a0 true _ A3.out).mono ?_); rintro e w11 ⟨rfl, hb⟩; refine ⟨_, rfl, ?_⟩; have n0_ := Aside0.mk (below_step (by repeat (first | (with_reducible first | exact HB.out | apply below_alloc | apply pw_below_drewN | apply below_drew1) | exact HB.out)) hb); clear HB; have HB := n0_; clear n0_; (try clear hb); (try clear hb2); (try clear hk); (try clear hi)) | (go_at_call 101; (with_reducible refine (lagoonref05_Is.calls k a1 true _ A5.out).mono ?_); rintro e w12 ⟨rfl, hb⟩; have n0_ := Aside0.mk (below_step (by repeat (first | (with_reducible first | exact HB.out | apply below_alloc | apply pw_below_drewN | apply below_drew1) | exact HB.out)) hb); clear HB; have HB := n0_; clear n0_; (try clear hb); (try clear hb2); (try clear hk); (try clear hi)))
          go_ret
          exact ⟨by first | rfl | (simp [errW_none, errW_some] <;> rfl) | (simp [*, errW_none, errW_some] <;> rfl), by repeat (first | (with_reducible first | exact HB.out | apply below_alloc | apply pw_below_drewN | apply below_drew1) | exact HB.out)⟩
        · rw [if_neg c10] at H
          have c10b0 : (a1.toList == ([47] : List UInt8)) = false := beq_eq_false_iff_ne.mpr c10
          have c10b1 : (a1.toList != ([47] : List UInt8)) = true := bne_iff_ne.mpr c10
          by_cases c13 : (a0.size : Int) > (a1.size : Int)
          · rw [if_pos c13] at H
            have c13b0 : decide ((a1.size : Int) < (a0.size : Int)) = true := decide_eq_true c13
            have c13b1 : decide (a1.size < a0.size) = true := decide_eq_true (Int.ofNat_lt.mp c13)
            clear c13
            by_cases c14 : 0 ≤ (a1.size : Int)
            · rw [if_pos c14] at H
              have c14b0 := eq_true c14
              have c14b1 : decide (0 ≤ (a1.size : Int)) = true := decide_eq_true c14
              clear c14
              by_cases c15 : (a1.size : Int) ≤ (a0.size : Int)
              · rw [if_pos c15] at H
                have c15b0 := eq_true c15
                have c15b1 : decide ((a1.size : Int) ≤ (a0.size : Int)) = true := decide_eq_true c15
                clear c15
                by_cases c16 : (a0.extract 0 ((a1.size : Int) : Int).toNat).toList = a1.toList
                · rw [if_pos c16] at H
                  have c16b0 : ((a0.extract 0 ((a1.size : Int) : Int).toNat).toList == a1.toList) = true := beq_iff_eq.mpr c16
                  have c16b1 : ((a0.extract 0 ((a1.size : Int) : Int).toNat).toList != a1.toList) = false := bne_eq_false_iff_eq.mpr c16
                  have c16b2 : ((a0.extract 0 a1.size).toList == a1.toList) = true := c16b0
                  have c16b3 : (a0.extract 0 a1.size).toList = a1.toList := beq_iff_eq.mp c16b2
                  clear c16
                  by_cases c17 : (a1.size : Int) < (a0.size : Int)
                  · rw [if_pos c17] at H
                    have c17b0 : decide ((a1.size : Int) < (a0.size : Int)) = true := decide_eq_true c17
                    have c17b1 : decide (a1.size < a0.size) = true := decide_eq_true (Int.ofNat_lt.mp c17)
                    clear c17
                    obtain rfl := Option.some.inj H
                    go_enter Tryz.func86, Tryz.ntmps86
                    go_wp2_with (first | ((with_reducible refine gate_callee (f := 101) rfl ?_); refine goesL_ (some 7) rfl rfl Tryz.func101 (by kernel_rfl) rfl #[.string a0] rfl (by (try simp only [List.map_toArray, List.map_cons, List.map_nil]); first | done | rfl | (simp only [List.length_drop, List.length_take]; rfl)) ?_; (with_reducible refine (lagoonref05_Is.calls k a0 true _ A3.out).mono ?_); rintro e w19 ⟨rfl, hb⟩; refine ⟨_, rfl, ?_⟩; have n0_ := Aside0.mk (below_step (by repeat (first | (with_reducible first | exact HB.out | apply below_alloc | apply pw_below_drewN | apply below_drew1) | exact HB.out)) hb); clear HB; have HB := n0_; clear n0_; (try clear hb); (try clear hb2); (try clear hk); (try clear hi)) | (go_at_call 101; (with_reducible refine (lagoonref05_Is.calls k a1 true _ A5.out).mono ?_); rintro e w20 ⟨rfl, hb⟩; have n0_ := Aside0.mk (below_step (by repeat (first | (with_reducible first | exact HB.out | apply below_alloc | apply pw_below_drewN | apply below_drew1) | exact HB.out)) hb); clear HB; have HB := n0_; clear n0_; (try clear hb); (try clear hb2); (try clear hk); (try clear hi); have p18 : 0 ≤ ((a1.size : Int) : Int) := of_decide_eq_true (by first | (with_reducible assumption) | assumption); have q18 : (a1.size : Int) < (a0.size : Int) := of_decide_eq_true (by first | (with_reducible assumption) | assumption); have hx18 := bt_at a0 (a1.size : Int); replace p18 := eq_true p18; replace q18 := eq_true q18))
                    go_ret
                    exact ⟨by first | rfl | (rw [← bt_at a0 (a1.size : Int) (show ((a1.size : Int)).toNat < a0.size by have := of_decide_eq_true c17b1; omega)]; rfl) | (simp [errW_none, errW_some] <;> rfl) | (simp [*, errW_none, errW_some] <;> rfl), by repeat (first | (with_reducible first | exact HB.out | apply below_alloc | apply pw_below_drewN | apply below_drew1) | exact HB.out)⟩
                  · rw [if_neg c17] at H
                    exact absurd H (by simp)
                · rw [if_neg c16] at H
                  have c16b0 : ((a0.extract 0 ((a1.size : Int) : Int).toNat).toList == a1.toList) = false := beq_eq_false_iff_ne.mpr c16
                  have c16b1 : ((a0.extract 0 ((a1.size : Int) : Int).toNat).toList != a1.toList) = true := bne_iff_ne.mpr c16
                  have c16b2 : ((a0.extract 0 a1.size).toList == a1.toList) = false := c16b0
                  have c16b3 : ¬ (a0.extract 0 a1.size).toList = a1.toList := beq_eq_false_iff_ne.mp c16b2
                  obtain rfl := Option.some.inj H
                  go_enter Tryz.func86, Tryz.ntmps86
                  go_wp2_with (first | ((with_reducible refine gate_callee (f := 101) rfl ?_); refine goesL_ (some 7) rfl rfl Tryz.func101 (by kernel_rfl) rfl #[.string a0] rfl (by (try simp only [List.map_toArray, List.map_cons, List.map_nil]); first | done | rfl | (simp only [List.length_drop, List.length_take]; rfl)) ?_; (with_reducible refine (lagoonref05_Is.calls k a0 true _ A3.out).mono ?_); rintro e w21 ⟨rfl, hb⟩; refine ⟨_, rfl, ?_⟩; have n0_ := Aside0.mk (below_step (by repeat (first | (with_reducible first | exact HB.out | apply below_alloc | apply pw_below_drewN | apply below_drew1) | exact HB.out)) hb); clear HB; have HB := n0_; clear n0_; (try clear hb); (try clear hb2); (try clear hk); (try clear hi)) | (go_at_call 101; (with_reducible refine (lagoonref05_Is.calls k a1 true _ A5.out).mono ?_); rintro e w22 ⟨rfl, hb⟩; have n0_ := Aside0.mk (below_step (by repeat (first | (with_reducible first | exact HB.out | apply below_alloc | apply pw_below_drewN | apply below_drew1) | exact HB.out)) hb); clear HB; have HB := n0_; clear n0_; (try clear hb); (try clear hb2); (try clear hk); (try clear hi)))
                  go_ret
                  exact ⟨by first | rfl | (simp [errW_none, errW_some] <;> rfl) | (simp [*, errW_none, errW_some] <;> rfl), by repeat (first | (with_reducible first | exact HB.out | apply below_alloc | apply pw_below_drewN | apply below_drew1) | exact HB.out)⟩
              · rw [if_neg c15] at H
                exact absurd H (by simp)
            · rw [if_neg c14] at H
              exact absurd H (by simp)
          · rw [if_neg c13] at H
            have c13b0 : decide ((a1.size : Int) < (a0.size : Int)) = false := decide_eq_false c13
            have c13b1 : decide (a1.size < a0.size) = false := decide_eq_false (fun h => c13 (Int.ofNat_lt.mpr h))
            clear c13
            obtain rfl := Option.some.inj H
            go_enter Tryz.func86, Tryz.ntmps86
            go_wp2_with (first | ((with_reducible refine gate_callee (f := 101) rfl ?_); refine goesL_ (some 7) rfl rfl Tryz.func101 (by kernel_rfl) rfl #[.string a0] rfl (by (try simp only [List.map_toArray, List.map_cons, List.map_nil]); first | done | rfl | (simp only [List.length_drop, List.length_take]; rfl)) ?_; (with_reducible refine (lagoonref05_Is.calls k a0 true _ A3.out).mono ?_); rintro e w23 ⟨rfl, hb⟩; refine ⟨_, rfl, ?_⟩; have n0_ := Aside0.mk (below_step (by repeat (first | (with_reducible first | exact HB.out | apply below_alloc | apply pw_below_drewN | apply below_drew1) | exact HB.out)) hb); clear HB; have HB := n0_; clear n0_; (try clear hb); (try clear hb2); (try clear hk); (try clear hi)) | (go_at_call 101; (with_reducible refine (lagoonref05_Is.calls k a1 true _ A5.out).mono ?_); rintro e w24 ⟨rfl, hb⟩; have n0_ := Aside0.mk (below_step (by repeat (first | (with_reducible first | exact HB.out | apply below_alloc | apply pw_below_drewN | apply below_drew1) | exact HB.out)) hb); clear HB; have HB := n0_; clear n0_; (try clear hb); (try clear hb2); (try clear hk); (try clear hi)))
            go_ret
            exact ⟨by first | rfl | (simp [errW_none, errW_some] <;> rfl) | (simp [*, errW_none, errW_some] <;> rfl), by repeat (first | (with_reducible first | exact HB.out | apply below_alloc | apply pw_below_drewN | apply below_drew1) | exact HB.out)⟩
    · replace c6 := Bool.eq_false_iff.mpr c6
      subst c6
      have H1 : (some false) = some r := by rw [if_neg (show ¬ (false = true) by decide)] at H; exact H
      clear H
      have H := H1
      clear H1
      obtain rfl := Option.some.inj H
      go_enter Tryz.func86, Tryz.ntmps86
      go_wp2_with (first | ((with_reducible refine gate_callee (f := 101) rfl ?_); refine goesL_ (some 7) rfl rfl Tryz.func101 (by kernel_rfl) rfl #[.string a0] rfl (by (try simp only [List.map_toArray, List.map_cons, List.map_nil]); first | done | rfl | (simp only [List.length_drop, List.length_take]; rfl)) ?_; (with_reducible refine (lagoonref05_Is.calls k a0 true _ A3.out).mono ?_); rintro e w25 ⟨rfl, hb⟩; refine ⟨_, rfl, ?_⟩; have n0_ := Aside0.mk (below_step (by repeat (first | (with_reducible first | exact HB.out | apply below_alloc | apply pw_below_drewN | apply below_drew1) | exact HB.out)) hb); clear HB; have HB := n0_; clear n0_; (try clear hb); (try clear hb2); (try clear hk); (try clear hi)) | (go_at_call 101; (with_reducible refine (lagoonref05_Is.calls k a1 false _ A5.out).mono ?_); rintro e w26 ⟨rfl, hb⟩; have n0_ := Aside0.mk (below_step (by repeat (first | (with_reducible first | exact HB.out | apply below_alloc | apply pw_below_drewN | apply below_drew1) | exact HB.out)) hb); clear HB; have HB := n0_; clear n0_; (try clear hb); (try clear hb2); (try clear hk); (try clear hi)))
      go_ret
      exact ⟨by first | rfl | (simp [errW_none, errW_some] <;> rfl) | (simp [*, errW_none, errW_some] <;> rfl), by repeat (first | (with_reducible first | exact HB.out | apply below_alloc | apply pw_below_drewN | apply below_drew1) | exact HB.out)⟩
  · replace c4 := Bool.eq_false_iff.mpr c4
    subst c4
    have H1 : (some false) = some r := by rw [if_neg (show ¬ (false = true) by decide)] at H; exact H
    clear H
    have H := H1
    clear H1
    obtain rfl := Option.some.inj H
    go_enter Tryz.func86, Tryz.ntmps86
    go_wp2_with (first | ((with_reducible refine gate_callee (f := 101) rfl ?_); refine goesL_ (some 7) rfl rfl Tryz.func101 (by kernel_rfl) rfl #[.string a0] rfl (by (try simp only [List.map_toArray, List.map_cons, List.map_nil]); first | done | rfl | (simp only [List.length_drop, List.length_take]; rfl)) ?_; (with_reducible refine (lagoonref05_Is.calls k a0 false _ A3.out).mono ?_); rintro e w27 ⟨rfl, hb⟩; refine ⟨_, rfl, ?_⟩; have n0_ := Aside0.mk (below_step (by repeat (first | (with_reducible first | exact HB.out | apply below_alloc | apply pw_below_drewN | apply below_drew1) | exact HB.out)) hb); clear HB; have HB := n0_; clear n0_; (try clear hb); (try clear hb2); (try clear hk); (try clear hi)))
    go_ret
    exact ⟨by first | rfl | (simp [errW_none, errW_some] <;> rfl) | (simp [*, errW_none, errW_some] <;> rfl), by repeat (first | (with_reducible first | exact HB.out | apply below_alloc | apply pw_below_drewN | apply below_drew1) | exact HB.out)⟩


end Go.Proofs.YtkhnjckkjdldbaaGreatDoor.Pr
namespace Go.Proofs.YtkhnjckkjdldbaaGreatDoor.Q
open Go.RowKit Go.Shelf Go.Proofs.YtkhnjckkjdldbaaGreatDoorW.PrintWords Go.Proofs.YtkhnjckkjdldbaaGreatDoor.Pr
set_option linter.unusedVariables false
set_option linter.unusedSimpArgs false
attribute [local go_sem] Oper.semAt_some
theorem isP_slash {p : ByteArray} (h : isP p = true) : slash p := by
  unfold isP at h
  simp only [Bool.and_eq_true, decide_eq_true_eq] at h
  exact h.1.2
def empty : ByteArray := ⟨#[]⟩
def rootB : ByteArray := ⟨#[47]⟩
theorem pis_calls (p : ByteArray) (w : World) (hs : p.size ≤ 2147483648) (hT : Tabs w) : Calls Tryz.prog 160 #[.string p] w fun e w' => e = .returned (.bool (isP p)) ∧ Below w.heap.size w w' := by
  have HK := Lib.hid (check_calls p w hs hT)
  cases hi : isP p with
  | true =>
    have hc := checkP_ok p hi
    rw [hc] at HK
    go_enter Tryz.func160, Tryz.ntmps160
    go_wp2_with fail
    refine HK.out.mono ?_
    rintro e w1 ⟨rfl, hB⟩
    have HB := Lib.hid hB
    clear hB
    go_wp2
    go_ret
    exact ⟨rfl, HB.out⟩
  | false =>
    have hc := checkP_no p hi
    rw [hc] at HK
    obtain ⟨x, hx⟩ : ∃ x, (checkP p).1 = x := ⟨_, rfl⟩
    rw [hx] at HK
    clear hx
    go_enter Tryz.func160, Tryz.ntmps160
    go_wp2_with fail
    refine HK.out.mono ?_
    rintro e w1 ⟨rfl, hB⟩
    have HB := Lib.hid hB
    clear hB
    go_wp2
    go_ret
    exact ⟨rfl, HB.out⟩
theorem isP_two {p : ByteArray} (h : isP p = true) (hr : ¬ p.toList = [47]) : 2 ≤ p.size := by
  have hsl := isP_slash h
  by_cases e : p.size = 1
  · exfalso
    have h1 := hsl.2
    refine hr ?_
    rw [Lib.toList_data]
    have hl : p.data.toList.length = 1 := by rw [← Lib.size_eq]; exact e
    have h2 := data_getD p 0 hsl.1
    match hd : p.data.toList, hl with
    | [x], _ =>
      rw [hd] at h2
      have h3 := Option.some.inj h2
      rw [← h3] at h1
      have : x = 47 := UInt8.toNat_inj.1 h1
      rw [this]
  · have := hsl.1; omega
theorem root_is {d : ByteArray} (h : d.toList = [47]) : d = rootB := by
  rw [Lib.toList_data] at h
  cases d with
  | mk a =>
    have : a = #[47] := by
      apply Array.toList_inj.1
      simpa using h
    rw [this]; rfl
theorem toList_inj {s t : ByteArray} (h : s.toList = t.toList) : s = t := by
  rw [Lib.toList_data, Lib.toList_data] at h
  cases s; cases t
  exact congrArg _ (Array.toList_inj.1 h)
/-! ABOVE -/
def ups (p : ByteArray) (i : Nat) : List ByteArray := if h : i < p.size then (if (p.get! i).toNat = 47 then p.extract 0 i :: ups p (i + 1) else ups p (i + 1)) else []
termination_by p.size - i
theorem ups_out {p : ByteArray} {i : Nat} (h : ¬ i < p.size) : ups p i = [] := by rw [ups, dif_neg h]
theorem ups_yes {p : ByteArray} {i : Nat} (h : i < p.size) (k : (p.get! i).toNat = 47) : ups p i = p.extract 0 i :: ups p (i + 1) := by rw [ups, dif_pos h, if_pos k]
theorem ups_no {p : ByteArray} {i : Nat} (h : i < p.size) (k : ¬ (p.get! i).toNat = 47) : ups p i = ups p (i + 1) := by rw [ups, dif_pos h, if_neg k]
def aboveP (p : ByteArray) : List ByteArray := if isP p = true ∧ ¬ p.toList = [47] then rootB :: ups p 1 else []
theorem mem_ups {p q : ByteArray} : ∀ n i, p.size - i ≤ n → (q ∈ ups p i ↔ ∃ j, i ≤ j ∧ j < p.size ∧ (p.get! j).toNat = 47 ∧ q = p.extract 0 j) := by
  intro n
  induction n with
  | zero => intro i hi; rw [ups_out (by omega)]; simp; omega
  | succ n ih =>
    intro i hi
    by_cases h : i < p.size
    · have := ih (i + 1) (by omega)
      by_cases k : (p.get! i).toNat = 47
      · rw [ups_yes h k, List.mem_cons, this]
        constructor
        · rintro (rfl | ⟨j, h1, h2⟩)
          · exact ⟨i, Nat.le_refl _, h, k, rfl⟩
          · exact ⟨j, by omega, h2⟩
        · rintro ⟨j, h1, h2, h3, h4⟩
          by_cases e : j = i
          · subst e; exact .inl h4
          · exact .inr ⟨j, by omega, h2, h3, h4⟩
      · rw [ups_no h k, this]
        constructor
        · rintro ⟨j, h1, h2⟩; exact ⟨j, by omega, h2⟩
        · rintro ⟨j, h1, h2, h3, h4⟩
          by_cases e : j = i
          · subst e; exact absurd h3 k
          · exact ⟨j, by omega, h2, h3, h4⟩
    · rw [ups_out h]; simp; omega
/-! ABOVE'S ITERATOR -/
def AboveNext (p : ByteArray) (pre : List ByteArray) (x : ByteArray) : Prop := ∃ rest, aboveP p = pre ++ x :: rest
set_option maxRecDepth 100000 in
set_option maxHeartbeats 4000000 in
theorem above_gives (n : Nat) (hn : 2 ≤ n) (b : Nat) (p : ByteArray) (hs : p.size ≤ 2147483648) :
    GivesZ Fence.wide n Tryz.prog 162 #[.pointer (some ⟨b, 0, none⟩)] encT (fun k => k = b) (fun _ => False) (aboveP p).length (AboveNext p) (fun xs => xs = aboveP p) (fun _ => True)
      (fun W => W.heap[b]? = some (.cells #[.string p] 9 (0, 0)) ∧ Tabs W) :=
  fun l J Jx W ⟨hb0, hT⟩ hZ hJ hJx hJz hY h0 => by
    have HJ := Lib.hid hJ
    have HY := Lib.hid hY
    have x0 : W.cell? ⟨b, 0, none⟩ = some (.string p) := (cell_of_row W b 0 _ _ _ hb0).trans rfl
    have KI := pis_calls p W hs hT
    have H0 := Lib.hid (And.intro h0 hb0)
    clear hJ hJx hJz hY h0 hb0 hT
    by_cases hok : isP p = true ∧ ¬ p.toList = [47]
    · have hall : aboveP p = rootB :: ups p 1 := by unfold aboveP; rw [if_pos hok]
      rw [hok.1] at KI
      have HK := Lib.hid KI
      have c1 : (p.toList == [47]) = false := beq_eq_false_iff_ne.mpr hok.2
      have HA := Lib.hid hall
      have h2 := isP_two hok.1 hok.2
      clear KI hall hok
      refine callsIn_of_wp Tryz.func162 rfl trivial ?_ rfl
      simp only [Tryz.ntmps162, List.size_toArray, List.length_cons, List.length_nil, Nat.reduceAdd, Nat.reduceSub, Array.replicate_succ, Array.replicate_zero, List.push_toArray, List.append_toArray, List.nil_append, List.cons_append]
      gi_wp2_with fail
      refine ⟨trivial, fun _ => by omega, (callsIn_wide.2 HK.out).mono ?_⟩
      rintro e w1 ⟨rfl, hB⟩
      have hb1 := (hB.block b (Array.getElem?_eq_some_iff.1 H0.out.2).1).trans H0.out.2
      have x1 : w1.cell? ⟨b, 0, none⟩ = some (.string p) := (cell_of_row w1 b 0 _ _ _ hb1).trans rfl
      have hj1 := HJ.out [] W w1 none H0.out.1 (grown_of_below hB) (fun r e => by cases e)
      obtain ⟨fn, tmps, assign, body, hy, hR⟩ := HY.out [] rootB w1 hj1 (by rw [HA.out]; simp) ⟨_, HA.out⟩
      simp only [encT, rootB] at hy
      have HR := Lib.hid hR
      have HB1 := Lib.hid hb1
      clear hB hb1 hj1 hR HK x0
      gi_wp2_with fail
      refine ⟨fun _ => by omega, HR.out.mono ?_⟩
      rintro e W3 (⟨rfl, hJ3, hk3⟩ | ⟨rfl, hJx3⟩)
      · have hb3 := hk3.blk HB1.out (fun h => h rfl)
        have H3 := Lib.hid (And.intro hJ3 hb3)
        clear hJ3 hk3 hb3 hy x1
        gi_wp2_with fail
        gi_loopw [3] (fun i wr => ∃ (k : Nat) (pre : List ByteArray), 1 ≤ k ∧ k ≤ p.size ∧ i = .int .i64 k ∧ Hid (aboveP p = pre ++ ups p k) ∧ Hid (J pre wr ∧ wr.heap[b]? = some (.cells #[.string p] 9 (0, 0)))) (fun i _ => p.size - (intOf i).toNat)
        case atStart => exact ⟨1, [rootB], by omega, by omega, rfl, Lib.hid (by rw [HA.out]; rfl), H3⟩
        case round =>
          clear H3
          obtain ⟨k, pre, hk1, hk2, rfl, HU, T⟩ := hrel
          have x0 : wr.cell? ⟨b, 0, none⟩ = some (.string p) := (cell_of_row wr b 0 _ _ _ T.out.2).trans rfl
          by_cases hlt : k < p.size
          · have hg := Utf8W.get!_of_lt p k hlt
            by_cases h47 : (p.get! k).toNat = 47
            · have hbt : ∀ h : k < p.size, (((p[k]'h).toNat : Int) == 47) = true := fun h => by rw [hg] at h47; rw [beq_iff_eq]; omega
              have hall : aboveP p = pre ++ p.extract 0 k :: ups p (k + 1) := by rw [HU.out, ups_yes hlt h47]
              obtain ⟨fn, tmps, assign, body, hy, hR⟩ := HY.out pre (p.extract 0 k) wr T.out.1 (by rw [hall]; simp) ⟨_, hall⟩
              simp only [encT] at hy
              have HR := Lib.hid hR
              have HAll := Lib.hid hall
              clear hg h47 hall hR
              gi_wp2_with fail
              refine ⟨fun _ => by omega, HR.out.mono ?_⟩
              rintro e W4 (⟨rfl, hJ4, hk4⟩ | ⟨rfl, hJx4⟩)
              · have H4 := Lib.hid (And.intro hJ4 (hk4.blk T.out.2 (fun h => h rfl)))
                clear hJ4 hk4 hy x0
                gi_wp2
                go_roundw
                case rel => exact ⟨k + 1, pre ++ [p.extract 0 k], by omega, by omega, by go_num, Lib.hid (by rw [HAll.out]; simp), H4⟩
                case measure => simp [intOf]; omega
              · have H4 := Lib.hid hJx4
                clear hJx4 hy x0
                gi_wp2
                refine bodyPost_ret (results_none rfl _ _ _) rfl ?_
                exact ⟨⟨_, rfl⟩, .inr ⟨_, trivial, H4.out⟩⟩
            · have hbt : ∀ h : k < p.size, (((p[k]'h).toNat : Int) == 47) = false := fun h => by rw [hg] at h47; rw [beq_eq_false_iff_ne]; omega
              have HAll := Lib.hid (show aboveP p = pre ++ ups p (k + 1) by rw [HU.out, ups_no hlt h47])
              clear hg h47
              gi_wp2
              refine ⟨fun _ h => (by cases h), ?_⟩
              gi_wp2
              go_roundw
              case rel => exact ⟨k + 1, pre, by omega, by omega, by go_num, HAll, T⟩
              case measure => simp [intOf]; omega
          · gi_wp2
            go_end0
            exact ⟨⟨_, rfl⟩, .inl ⟨_, by rw [HU.out, ups_out hlt, List.append_nil], T.out.1⟩⟩
      · have H3 := Lib.hid hJx3
        clear hJx3 hy x1
        gi_wp2
        refine bodyPost_ret (results_none rfl _ _ _) rfl ?_
        exact ⟨⟨_, rfl⟩, .inr ⟨_, trivial, H3.out⟩⟩
    · have hall : aboveP p = [] := by unfold aboveP; rw [if_neg hok]
      have HA := Lib.hid hall
      cases hi : isP p with
      | false =>
        rw [hi] at KI
        have HK := Lib.hid KI
        clear KI hall hok hi
        refine callsIn_of_wp Tryz.func162 rfl trivial ?_ rfl
        simp only [Tryz.ntmps162, List.size_toArray, List.length_cons, List.length_nil, Nat.reduceAdd, Nat.reduceSub, Array.replicate_succ, Array.replicate_zero, List.push_toArray, List.append_toArray, List.nil_append, List.cons_append]
        gi_wp2_with fail
        refine ⟨trivial, fun _ => by omega, (callsIn_wide.2 HK.out).mono ?_⟩
        rintro e w1 ⟨rfl, hB⟩
        have hj1 := Lib.hid (HJ.out [] W w1 none H0.out.1 (grown_of_below hB) (fun r e => by cases e))
        clear hB HK x0
        gi_wp2
        refine ⟨fun _ h => (by cases h), ?_⟩
        gi_wp2
        refine bodyPost_ret (results_none rfl _ _ _) rfl ?_
        exact ⟨⟨_, rfl⟩, .inl ⟨_, HA.out.symm, hj1.out⟩⟩
      | true =>
        have hr : p.toList = [47] := by
          by_cases h : p.toList = [47]
          · exact h
          · exact absurd ⟨hi, h⟩ hok
        rw [hi] at KI
        have HK := Lib.hid KI
        have c1 : (p.toList == [47]) = true := beq_iff_eq.mpr hr
        clear KI hall hok hi hr
        refine callsIn_of_wp Tryz.func162 rfl trivial ?_ rfl
        simp only [Tryz.ntmps162, List.size_toArray, List.length_cons, List.length_nil, Nat.reduceAdd, Nat.reduceSub, Array.replicate_succ, Array.replicate_zero, List.push_toArray, List.append_toArray, List.nil_append, List.cons_append]
        gi_wp2_with fail
        refine ⟨trivial, fun _ => by omega, (callsIn_wide.2 HK.out).mono ?_⟩
        rintro e w1 ⟨rfl, hB⟩
        have hj1 := Lib.hid (HJ.out [] W w1 none H0.out.1 (grown_of_below hB) (fun r e => by cases e))
        have x1 := pw_cell_below hB x0
        clear hB HK x0
        gi_wp2
        refine ⟨fun _ h => (by cases h), ?_⟩
        gi_wp2
        refine bodyPost_ret (results_none rfl _ _ _) rfl ?_
        exact ⟨⟨_, rfl⟩, .inl ⟨_, HA.out.symm, hj1.out⟩⟩
theorem above_call (p : ByteArray) (w : World) : Calls Tryz.prog 161 #[.string p] w fun e w' => e = .returned (.func (.func 162) #[] #[.pointer (some ⟨w.heap.size, 0, none⟩)]) ∧ w' = w.alloc (.cells #[.string p] 9) := by
  go_enter Tryz.func161, Tryz.ntmps161
  go_wp2
  go_ret
  exact ⟨rfl, rfl⟩
/-! BELOW -/
noncomputable instance (p q : ByteArray) : Decidable (q ∈ aboveP p) := Classical.propDecidable _
noncomputable def belowP (p q : ByteArray) : Bool := isP p && isP q && decide (q ∈ aboveP p)
theorem mem_above {p q : ByteArray} (hp : isP p = true) (hr : ¬ p.toList = [47]) (hq : isP q = true) : q ∈ aboveP p ↔ q.toList = [47] ∨ (q.size < p.size ∧ (p.extract 0 q.size).toList = q.toList ∧ (p.get! q.size).toNat = 47) := by
  have hsl := isP_slash hq
  unfold aboveP
  rw [if_pos ⟨hp, hr⟩, List.mem_cons, mem_ups p.size 1 (by omega)]
  constructor
  · rintro (rfl | ⟨j, h1, h2, h3, rfl⟩)
    · left; rw [Lib.toList_data]; rfl
    · right
      have hz : (p.extract 0 j).size = j := by rw [ByteArray.size_extract]; omega
      rw [hz]; exact ⟨h2, rfl, h3⟩
  · rintro (h | ⟨h1, h2, h3⟩)
    · left; exact root_is h
    · right
      exact ⟨q.size, hsl.1, h1, h3, (toList_inj h2).symm⟩
theorem refBelow_f (p q : ByteArray) (hp : p.size ≤ 2147483648) (hq : q.size ≤ 2147483648) (k : Nat) (hk : 4 * (p.size + q.size) + 60 ≤ k) : lagoonref05_Below.f k p q = some (belowP p q) := by
  unfold lagoonref05_Below.f belowP
  rw [is_f p (by omega) _ (by omega), Option.bind_some]
  cases h1 : isP p with
  | false => rw [if_neg (by simp)]; rfl
  | true =>
    rw [if_pos rfl, is_f q (by omega) _ (by omega), Option.bind_some]
    cases h2 : isP q with
    | false => rw [if_neg (by simp)]; rfl
    | true =>
      rw [if_pos rfl]
      by_cases hr : p.toList = [47]
      · rw [if_pos hr]
        have : aboveP p = [] := by unfold aboveP; rw [if_neg (fun x => x.2 hr)]
        have hn : ¬ q ∈ aboveP p := by rw [this]; simp
        simp [hn]
      · rw [if_neg hr]
        have hm := mem_above h1 hr h2
        by_cases hq1 : q.toList = [47]
        · rw [if_pos hq1]
          simp [hm.2 (.inl hq1)]
        · rw [if_neg hq1]
          by_cases hz : q.size < p.size
          · rw [if_pos (by omega), if_pos (by omega), if_pos (by omega)]
            have e0 : ((q.size : Int)).toNat = q.size := by omega
            rw [e0]
            by_cases he : (p.extract 0 q.size).toList = q.toList
            · rw [if_pos he, if_pos (by omega), bt_get p q.size hz]
              by_cases h47 : (p.get! q.size).toNat = 47
              · have e1 : (((p.get! q.size).toNat : Int) == 47) = true := by rw [h47]; rfl
                rw [e1]; simp [hm.2 (.inr ⟨hz, he, h47⟩)]
              · have e1 : (((p.get! q.size).toNat : Int) == 47) = false := by rw [beq_eq_false_iff_ne]; omega
                have hn : ¬ q ∈ aboveP p := fun x => by
                  rcases hm.1 x with h | h
                  · exact hq1 h
                  · exact h47 h.2.2
                rw [e1]; simp [hn]
            · have hn : ¬ q ∈ aboveP p := fun x => by
                rcases hm.1 x with h | h
                · exact hq1 h
                · exact he h.2.1
              rw [if_neg he]; simp [hn]
          · have hn : ¬ q ∈ aboveP p := fun x => by
              rcases hm.1 x with h | h
              · exact hq1 h
              · exact hz h.1
            rw [if_neg (by omega)]; simp [hn]
theorem refBelow_calls (p q : ByteArray) (w : World) (hp : p.size ≤ 2147483648) (hq : q.size ≤ 2147483648) : Calls Tryz.prog 86 #[.string p, .string q] w fun e w' => e = .returned (.bool (belowP p q)) ∧ Below w.heap.size w w' :=
  lagoonref05_Below.calls (4 * (p.size + q.size) + 60) p q _ w (refBelow_f p q hp hq _ (Nat.le_refl _))
def Two (w W : World) (q : ByteArray) (b : Bool) : Prop :=
  W.heap[w.heap.size]? = some (.cells #[.string q] 9 (0, 0)) ∧ W.heap[w.heap.size + 1]? = some (.cells #[.bool b] 4 (0, 0)) ∧ Below w.heap.size w W
theorem Two.grown {w W W' : World} {q : ByteArray} {b : Bool} {row : Option Nat} {B : Nat} (h : Two w W q b) (hg : W.grownBy W' row) (hr : ∀ r, row = some r → B ≤ r) (hB : w.heap.size + 2 ≤ B) : Two w W' q b :=
  ⟨grown_kept hg hr h.1 (by omega), grown_kept hg hr h.2.1 (by omega), below_of_grown h.2.2 hg (fun k e => by have := hr k e; omega)⟩
theorem Two.below {w W W' : World} {q : ByteArray} {b : Bool} (h : Two w W q b) (hB : Below W.heap.size W W') : Two w W' q b :=
  ⟨(hB.block _ (Array.getElem?_eq_some_iff.1 h.1).1).trans h.1, (hB.block _ (Array.getElem?_eq_some_iff.1 h.2.1).1).trans h.2.1, below_step h.2.2 hB⟩
theorem Two.only {w W W' : World} {q : ByteArray} {b : Bool} {S : Nat → Prop} (h : Two w W q b) (ho : Only S W W') (hS : ∀ k, S k → w.heap.size + 2 ≤ k) : Two w W' q b :=
  ⟨ho.blk h.1 (fun s => by have := hS _ s; omega), ho.blk h.2.1 (fun s => by have := hS _ s; omega), ho.from h.2.2 (fun k s => by have := hS _ s; omega)⟩
theorem Two.set1 {w W : World} {q : ByteArray} {b : Bool} (h : Two w W q b) (c : Bool) : Two w (W.setCell ⟨w.heap.size + 1, 0, none⟩ (.bool c)) q c :=
  ⟨(blk_other _ _ _ (by show w.heap.size ≠ w.heap.size + 1; omega)).trans h.1, heap_setCell_same W _ 0 _ _ _ h.2.1, h.2.2.setCell (p := ⟨w.heap.size + 1, 0, none⟩) (by simp) _⟩
theorem Two.c0 {w W : World} {q : ByteArray} {b : Bool} (h : Two w W q b) : W.cell? ⟨w.heap.size, 0, none⟩ = some (.string q) := (cell_of_row W w.heap.size 0 _ _ _ h.1).trans rfl
theorem Two.c1 {w W : World} {q : ByteArray} {b : Bool} (h : Two w W q b) : W.cell? ⟨w.heap.size + 1, 0, none⟩ = some (.bool b) := (cell_of_row W (w.heap.size + 1) 0 _ _ _ h.2.1).trans rfl
theorem Two.z1 {w W : World} {q : ByteArray} {b : Bool} (h : Two w W q b) : W.frozen? ⟨w.heap.size + 1, 0, none⟩ = false := frozen_of_row W (w.heap.size + 1) 0 _ _ h.2.1
theorem two_new (w : World) (q : ByteArray) : Two w ((w.alloc (.cells #[.string q] 9)).alloc (.cells #[.bool false] 4)) q false := by
  refine ⟨?_, ?_, below_alloc (below_alloc (Below.refl _ w) _) _⟩
  · rw [heap_alloc_old _ _ (by simp)]; exact heap_alloc_new w _
  · have := heap_alloc_new (w.alloc (.cells #[.string q] 9)) (.cells #[.bool false] 4)
    rwa [World.size_alloc] at this
def BelowPost (p q : ByteArray) (w : World) (e : Ending) (w' : World) : Prop := e = .returned (.bool (belowP p q)) ∧ Below w.heap.size w w'
theorem below_end {p q : ByteArray} {w W : World} {n D : Nat} {tmps : Array Value} {b : Bool} (h : Two w W q b) (hD : W.heap[D]? = some (.deferred (some []))) (hDw : w.heap.size + 2 ≤ D) (hb : b = belowP p q)
    (h4 : tmps.getD 4 undef = .pointer (some ⟨w.heap.size + 1, 0, none⟩)) :
    LeavesInM Fence.wide n Tryz.prog Tryz.f159 tmps (BelowPost p q w) [{ target := .collected D, args := #[] }] .returning W := by
  have hS : Two w (W.putObj D (.deferred none)) q b := h.only ((Only.refl (fun k => k = D) W).putObj rfl _) (fun k e => by omega)
  refine ⟨by simp, .inl ⟨_, _, rfl, run_takeDeferred hD, ?_⟩⟩
  exact ⟨_, results_cells1 rfl _ _ _ h4 (agg4 _) hS.c1, by rw [hb], hS.2.2⟩
def BelI (p q : ByteArray) (w : World) (pre : List ByteArray) (W : World) : Prop := ¬ q ∈ pre ∧ Two w W q false
def BelX (p q : ByteArray) (w : World) (c : Code) (W : World) : Prop := c = .ret ∧ q ∈ aboveP p ∧ Two w W q true
set_option maxHeartbeats 8000000 in
set_option maxRecDepth 100000 in
theorem below_yes (p q : ByteArray) (w : World) (hs : p.size ≤ 2147483648) (hsq : q.size ≤ 2147483648) (hT : Tabs w) (hp : isP p = true) (hq : isP q = true) : Calls Tryz.prog 159 #[.string p, .string q] w (BelowPost p q w) := by
  have HT := Lib.hid hT
  have HBP : Hid (belowP p q = decide (q ∈ aboveP p)) := Lib.hid (by unfold belowP; rw [hp, hq]; rfl)
  have T0 := two_new w q
  have KI := pis_calls p _ hs (tabs_from hT T0.2.2)
  rw [hp] at KI
  have HK := Lib.hid KI
  have KQ := fun w => pis_calls q w hsq
  rw [hq] at KQ
  have HKQ := Lib.hid KQ
  have HT0 := Lib.hid T0
  clear hT KI KQ T0 hp hq
  refine (callsIn_wide (n := 5)).1 ?_
  refine callsIn_of_wp_marks Tryz.func159 rfl trivial ?_ rfl
  simp only [Tryz.ntmps159, List.size_toArray, List.length_cons, List.length_nil, Nat.reduceAdd, Nat.reduceSub, Array.replicate_succ, Array.replicate_zero, List.push_toArray, List.append_toArray, List.nil_append, List.cons_append]
  gi_wp2_with fail
  refine ⟨trivial, (callsIn_wide.2 HK.out).mono ?_⟩
  rintro e w1 ⟨rfl, hB⟩
  have H1 := Lib.hid (HT0.out.below hB)
  have x0 := H1.out.c0
  clear hB HK HT0
  gi_wp2_with fail
  refine ⟨trivial, (callsIn_wide.2 (HKQ.out w1 (tabs_from HT.out H1.out.2.2))).mono ?_⟩
  rintro e w2 ⟨rfl, hB⟩
  have H2 := Lib.hid (H1.out.below hB)
  clear hB HKQ H1 x0
  gi_wp2_with fail
  refine ⟨trivial, (callsIn_wide.2 (above_call p w2)).mono ?_⟩
  rintro e w3 ⟨rfl, rfl⟩
  have hbox := heap_alloc_new w2 (.cells #[.string p] 9)
  have hsz : (w2.alloc (.cells #[.string p] 9)).heap.size = w2.heap.size + 1 := by simp
  have H3 := Lib.hid (H2.out.below (below_alloc (Below.refl _ w2) (.cells #[.string p] 9)))
  have hw2 : w.heap.size + 2 ≤ w2.heap.size := by have := (Array.getElem?_eq_some_iff.1 H2.out.2.1).1; omega
  obtain ⟨w4, hw4⟩ : ∃ V, w2.alloc (.cells #[.string p] 9) = V := ⟨_, rfl⟩
  obtain ⟨b, hb⟩ : ∃ b, w2.heap.size = b := ⟨_, rfl⟩
  rw [hw4, hb] at hbox hsz
  rw [hw4] at H3
  rw [hb] at hw2
  rw [hw4, hb]
  have HBOX := Lib.hid hbox
  clear hw4 hb H2 hbox
  gi_wp2_with fail
  rename_i KK aK
  have HX := Lib.hid aK
  clear aK
  refine range_z (F := Fence.wide) rfl (by decide) (gf := 162) (lb := #[.pointer (some ⟨b, 0, none⟩)]) rfl trivial (enters_of Tryz.func162 (by kernel_rfl) rfl)
    (above_gives _ (by decide) b p hs) (fun W hB => ⟨(hB.block _ (by omega)).trans HBOX.out, tabs_from HT.out (below_step H3.out.2.2 hB)⟩) (fun _ => rfl) (fun k hk => by omega) (fun k hk => hk.elim)
    (BelI p q w) (fun c _ W => BelX p q w c W) ?hI ?hIx ?hIz ⟨by simp, H3.out⟩ ?ex ?done ?stop
  case hI =>
    rintro pre A C row ⟨h1, h3⟩ hg hr
    exact ⟨h1, h3.grown hg (fun r e => (hr r e).1) (by omega)⟩
  case hIx =>
    rintro c pre A C row ⟨h1, h2, h3⟩ hg hr
    exact ⟨h1, h2, h3.grown hg (fun r e => (hr r e).1) (by omega)⟩
  case hIz =>
    rintro pre A C ⟨h1, h3⟩ ho
    exact ⟨h1, h3.only ho (fun k hk => hk.elim)⟩
  case ex =>
    apply Exists.intro
    refine ⟨?assign, ?body⟩
    case assign =>
      intro l' x W2 K hK
      simp only [encT]
      gi_wp2
      exact hK
    case body =>
      rintro l' pre x A ⟨h1, h3⟩ hlen ⟨rest, hnx⟩
      have x0 := h3.c0
      have x1 := h3.c1
      have z1 := h3.z1
      have H := Lib.hid (And.intro h1 (And.intro h3 hnx))
      clear h1 h3 hnx
      by_cases hxq : x = q
      · have e1 : (x.toList == q.toList) = true := by rw [hxq]; simp
        have e2 : x.toList = q.toList := by rw [hxq]
        have HQ := Lib.hid hxq
        clear hxq
        gi_wp2
        exact ⟨(KeepsOthers.setCell _ _ _).from _, rfl, by rw [H.out.2.2, ← HQ.out]; simp, H.out.2.1.set1 true⟩
      · have e0 : ¬ x.toList = q.toList := fun h => hxq (toList_inj h)
        have e1 : (x.toList == q.toList) = false := beq_eq_false_iff_ne.mpr e0
        have HQ := Lib.hid hxq
        clear hxq
        gi_wp2
        exact ⟨KeepsFrom.refl _ _, Only.refl _ _, by simp only [List.mem_append, List.mem_singleton, not_or]; exact ⟨H.out.1, fun h => HQ.out h.symm⟩, H.out.2.1⟩
  case done =>
    rintro xs A rfl ⟨h1, h3⟩ hD
    have x1 := h3.c1
    have z1 := h3.z1
    rw [hsz] at hD
    have hne : b + 1 ≠ w.heap.size + 1 := by omega
    have hD2 : (A.setCell ⟨w.heap.size + 1, 0, none⟩ (.bool false)).heap[b + 1]? = some (.deferred (some [])) := (blk_other _ _ _ hne).trans hD
    have HD := Lib.hid hD2
    have H := Lib.hid (And.intro h1 h3)
    have hb4 : w.heap.size + 2 ≤ b + 1 := by omega
    clear h1 h3 hD hD2 hne
    refine HX.out _ _ ?_
    gi_wp2
    exact below_end (H.out.2.set1 false) HD.out hb4 (by rw [HBP.out]; simp [H.out.1]) rfl
  case stop =>
    rintro c pre A _ ⟨rfl, h2, h3⟩ hD
    have hb4 : w.heap.size + 2 ≤ w4.heap.size := by omega
    gi_wp2
    exact below_end h3 hD hb4 (by rw [HBP.out]; simp [h2]) rfl
set_option maxHeartbeats 4000000 in
set_option maxRecDepth 100000 in
theorem below_no (p q : ByteArray) (w : World) (hs : p.size ≤ 2147483648) (hsq : q.size ≤ 2147483648) (hT : Tabs w) (h : ¬ (isP p = true ∧ isP q = true)) : Calls Tryz.prog 159 #[.string p, .string q] w (BelowPost p q w) := by
  have HT := Lib.hid hT
  have HBP : Hid (belowP p q = false) := Lib.hid (by
    unfold belowP
    cases h1 : isP p with
    | false => rfl
    | true =>
      cases h2 : isP q with
      | false => rfl
      | true => exact absurd ⟨h1, h2⟩ h)
  have T0 := two_new w q
  have KI := pis_calls p _ hs (tabs_from hT T0.2.2)
  have HT0 := Lib.hid T0
  clear hT T0
  cases hp : isP p with
  | false =>
    rw [hp] at KI
    have HK := Lib.hid KI
    clear KI hp h
    go_enter Tryz.func159, Tryz.ntmps159
    go_wp2_with fail
    refine HK.out.mono ?_
    rintro e w1 ⟨rfl, hB⟩
    have H1 := Lib.hid (HT0.out.below hB)
    have x1 := H1.out.c1
    have z1 := H1.out.z1
    clear hB HK HT0
    go_wp2
    exact bodyPost_ret (results_cells1 rfl _ _ _ rfl (agg4 _) (H1.out.set1 false).c1) rfl ⟨by rw [HBP.out], (H1.out.set1 false).2.2⟩
  | true =>
    rw [hp] at KI
    have HK := Lib.hid KI
    have hq : isP q = false := by
      cases h2 : isP q with
      | false => rfl
      | true => exact absurd ⟨hp, h2⟩ h
    have KQ := fun w => pis_calls q w hsq
    rw [hq] at KQ
    have HKQ := Lib.hid KQ
    clear KI KQ hp hq h
    go_enter Tryz.func159, Tryz.ntmps159
    go_wp2_with fail
    refine HK.out.mono ?_
    rintro e w1 ⟨rfl, hB⟩
    have H1 := Lib.hid (HT0.out.below hB)
    have x0 := H1.out.c0
    clear hB HK HT0
    go_wp2_with fail
    refine (HKQ.out w1 (tabs_from HT.out H1.out.2.2)).mono ?_
    rintro e w2 ⟨rfl, hB⟩
    have H2 := Lib.hid (H1.out.below hB)
    have x1 := H2.out.c1
    have z1 := H2.out.z1
    clear hB HKQ H1 x0
    go_wp2
    exact bodyPost_ret (results_cells1 rfl _ _ _ rfl (agg4 _) (H2.out.set1 false).c1) rfl ⟨by rw [HBP.out], (H2.out.set1 false).2.2⟩
theorem below_calls (p q : ByteArray) (w : World) (hs : p.size ≤ 2147483648) (hsq : q.size ≤ 2147483648) (hT : Tabs w) : Calls Tryz.prog 159 #[.string p, .string q] w fun e w' => e = .returned (.bool (belowP p q)) ∧ Below w.heap.size w w' := by
  by_cases h : isP p = true ∧ isP q = true
  · exact below_yes p q w hs hsq hT h.1 h.2
  · exact below_no p q w hs hsq hT h
end Go.Proofs.YtkhnjckkjdldbaaGreatDoor.Q
