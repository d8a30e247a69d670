/-
Proved: the tied card of AclAllows: it answers true for every input and leaves its arguments as they read.
Conditions: none beyond the given statement's own.
-/
import Derived.Test.YtgjgafibipepeaaGreatDoorRows
import Derived.Test.YtgjgafibipepeaaGreatDoorTie
import Derived.Test.YtgjgafibipepeaaGreatDoorCards
import Derived.Test.YtgjgafibipepeaaGreatDoorR
import Derived.Test.YtgjgafibipepeaaGreatDoorQg
import Derived.Test.YtgjgafibipepeaaGreatDoorR3
import Derived.WalkKit
import Derived.ProofKit
import Derived.LaidMore
import Derived.OpenShut
import Derived.ShutString
import Derived.Stop.Joined
import Derived.SevenTiedAt
import Derived.ChangeOld
import Derived.Below
import Derived.SizedLaws
import Derived.Lib.SmallJoins
namespace Go.Proofs.YtgjgafibipepeaaGreatDoor.aclAllows
open Go.ChangeShapes Go.WideShapes Go.ChangeAt Go.RowKit Go.Joins
open Go.ChangeMaps (open_string shut_string)
open Go.Proofs.YtgjgafibipepeaaGreatDoor.Q
set_option linter.unusedVariables false
set_option linter.constructorNameAsVariable false
set_option maxRecDepth 100000 in
theorem lifted (os : Os) (started : os.Started) (H : Type) (enc : TypeId × Value → H) :
    ReturnsInHanded {} Tryz.checked os 5 .any (fun w args => (Rows.aclAllowsSpec.pre enc Tryz.prog Tryz.f5 [] false w args ∧ laidMetH Tryz.prog laid7 w) ∧ sizedMet enc Tryz.prog Tryz.f5 (OpenSpec.ofChange Rows.aclAllowsSpec) false w args)
      (Rows.aclAllowsSpec.post enc Tryz.prog Tryz.f5 false true false false) := by
  refine returns_listed_shaped (C := Tryz.checked) (X := fun w _ => laidMetH Tryz.prog laid7 w) (fun _ _ _ hh h => h.of_heap hh) own started (by kernel_rfl) Tryz.func5
    (ChangeSpec.witness_shaped (enc := enc) (C := Tryz.checked) (os := os) (X := fun w _ => laidMetH Tryz.prog laid7 w) false (laidWorld os) #[.agg #[.slice none 0 0, .slice none 0 0, .int .i8 0, .slice none 0 0, .int .i8 0, .string ⟨#[]⟩, .string ⟨#[]⟩, .string ⟨#[]⟩, .string ⟨#[]⟩]] 8 rfl (World.shaped_of_RefB (by kernel_rfl) (by kernel_rfl)) (by kernel_rfl) (by kernel_rfl) (by kernel_rfl) (laid_met os _)) ?_
  intro W base args ds gs before hval0 hW _ _ hL hSh hsz0
  have hval : ∀ (j : Nat) t v, Tryz.f5.params[j]? = some t → args[j]? = some v → Value.okWide Tryz.prog W .any base t v := hval0
  have hW' := hW
  obtain ⟨p, q, hA0, hV, rfl, hfz, hnd⟩ := hW
  have hA : DataW.TrodAll enc Tryz.prog W 0 (fun _ => true) true Tryz.f5.params.toList args.toList ds p := hA0
  rw [Tryz.params5] at hA hval
  obtain ⟨v0, vs0, d0, ds0, p0, q0, hargs, rfl, rfl, h0, r0⟩ := trodAll_cons hA
  obtain ⟨rfl, rfl, rfl⟩ := trodAll_nil r0
  obtain rfl : args = #[v0] := by cases args; simp_all
  obtain ⟨rfl, rfl⟩ := trodVars_none hV
  have k0 := h0
  have lt0 : ∀ x ∈ p0, x.block < W.heap.size := by obtain ⟨m, hm⟩ := k0; exact DataW.trod_lt m _ _ _ hm
  have back0 : ∀ W', Below W.heap.size W W' → DataW.Trod enc Tryz.prog W' 0 (fun b => decide (b < W.heap.size)) true 69 v0 d0 p0 := fun W' bel => Below.trod laidOut (by kernel_rfl) (of_decide_eq_true (by kernel_rfl)) k0 bel lt0
  have hE : Env W := env_of hL hSh
  obtain ⟨A0, A1, A2, c0, c1, c2, l, maker, who, pp, more, other, rfl, g0, g1, g2, g3, g4, g5, g6, g7, g8⟩ := case_opened (hval 0 69 v0 rfl rfl) h0
  clear hA0 hval0 hsz0
  have walk : Calls Tryz.prog 5 #[(.agg #[.slice A0 l.length c0, .slice A1 maker.length c1, .int .i8 pp, .slice A2 who.length c2, .int .i8 more.f0, .string more.f1.f0, .string more.f1.f1, .string other.f0, .string other.f1])] W fun e w' => e = .returned (.bool true) ∧ Below W.heap.size W w' := by
    exact aclAllows_calls A0 A1 A2 c0 c1 c2 l maker who pp more other W g0 g1 g2 g3 g4 g5 g6 g7 g8 hE
  refine walk.mono fun e W' ⟨he, bel⟩ => ?_
  subst he
  exact ⟨_, rfl, _, _, _, [], _, [], hW', trodAll_mk1 (shut_bool Tryz.underlying4 _), (trodAll_cons_mk (back0 W' bel) trodAll_mk0), rfl, bel.frame _, fun h => by cases h⟩
theorem over : Rows.aclAllowsRow.holds Tryz.pinned (OpenSpec.ofChange Rows.aclAllowsSpec) :=
  OpenClaim.holds_of_wide 5 Tryz.f5 rfl rfl rfl rfl rfl rfl rfl ⟨rfl, rfl, rfl, rfl, rfl⟩ rfl rfl rfl rfl rfl (by kernel_rfl) Tryz.func5 (by kernel_rfl)
    (of_decide_eq_true (by kernel_rfl)) (by unfold Func.isWrapper; first | (rw [if_pos (by decide +kernel)]; kernel_rfl) | (rw [if_neg (by decide +kernel)]; exact ⟨rfl, rfl⟩))
    (fun os started H enc _ => lifted os started H enc)
theorem proved : Rows.AclAllowsCardSaid :=
  Claim7.holds_tied_plain_at .later [] [.data, .data, .data, .data, .sentinel, .sentinel, .pinned] true (true, "fefaba299b235ba7511d2fa624696219a956d4dc0163970d75f8506881906267") true
    over (fun _ h => by cases h) (by kernel_rfl) (fun _ h => by cases h) aclAllows_row_tie rfl ⟨rfl, rfl⟩ (by kernel_rfl) rfl
    (fun f fn hf hfn => by
      obtain rfl : f = 5 := Option.some.inj ((show Tryz.prog.funcNamed "lagoon/lagoonlaw06.AclAllows" = some 5 by kernel_rfl).symm.trans hf) |>.symm
      obtain rfl : fn = Tryz.f5 := (Option.some.inj (Tryz.func5.symm.trans hfn)).symm
      exact ⟨by kernel_rfl, fun j t ht => by
        rw [Tryz.params5] at ht
        have hm : t ∈ [69] := by simpa using Array.mem_of_getElem? ht
        have hall : ([69].all fun u => !Tryz.prog.wantsStandIn u) = true := by kernel_rfl
        exact (show Tryz.prog.wantsStandIn t = false by simpa using List.all_eq_true.1 hall t hm)⟩)
    (by kernel_rfl)
#print axioms proved
end Go.Proofs.YtgjgafibipepeaaGreatDoor.aclAllows
namespace Go.Proofs.YtgjgafibipepeaaGreatDoor
/-- The card, under a short name, for the claim. -/
theorem aclAllows_holds : Rows.AclAllowsCardSaid := aclAllows.proved
end Go.Proofs.YtgjgafibipepeaaGreatDoor
