import Derived.Test.YtbcijdgpaglbnaaC
namespace Go.Proofs.Ytbcijdgpaglbnaa.Q
open Go.RowKit Go.Proofs.YtbcijdgpaglbnaaW.PrintWords Go.Deep Go.Sort
set_option linter.unusedVariables false
set_option linter.unusedSimpArgs false

def firstA (A : Option Addr) (c : Nat) : Option Nat → Value
  | none => .slice none 0 0
  | some n => .slice (A.map fun a => ⟨a.block, a.off + 8, none⟩) n (c - 8)
theorem first_calls (A : Option Addr) (c : Nat) (L : List Nat) (w : World) (hr : RdB w A L) (hb : Bytes L) (hc : L.length ≤ c) (hl : L.length ≤ 1099511627776) :
    Calls Try.prog 18 #[.slice A L.length c] w fun e w' => e = .returned (firstA A c (firstB L)) ∧ Below w.heap.size w w' := by
  by_cases h8 : 8 < L.length
  · obtain ⟨b, o, rfl, hcell⟩ := hr.2 (by omega)
    refine (first_long b o c L w hcell hb hc hl h8).mono ?_
    rintro e w' ⟨he, hB⟩
    refine ⟨he.trans ?_, hB⟩
    cases firstB L <;> rfl
  · refine (first_short A c L w (by omega)).mono ?_
    rintro e w' ⟨he, rfl⟩
    refine ⟨he.trans ?_, Below.refl _ _⟩
    have : firstB L = none := by unfold firstB; rw [if_neg (fun h => h8 h.1)]
    rw [this]; rfl

/-! ONE -/
theorem nil_eql (W : World) : (binOp .eql 25 (.slice none 0 0) (.slice none 0 0)).run Try.prog W = .ok (.bool true) W := run_eql_nil_slice W 25 5 none 0 0 0 0 Try.underlying25
theorem some_eql (a : Addr) (n c : Nat) (W : World) : (binOp .eql 25 (.slice (some a) n c) (.slice none 0 0)).run Try.prog W = .ok (.bool false) W := Lib.run_eql_slice_nil W 25 5 (some a) n c 0 0 Try.underlying25
attribute [local go_sem] nil_eql some_eql
def oneB (L : List Nat) : Option (List Nat) :=
  match firstB L with
  | none => none
  | some n => if L.length = 9 + n then some (bodyOf L n) else none
def OnePost (w : World) (r : Option (List Nat)) (e : Ending) (w' : World) : Prop :=
  Below w.heap.size w w' ∧ match r with
  | none => e = .returned (.tuple #[.slice none 0 0, .int .i64 30])
  | some B => ∃ g c, e = .returned (.tuple #[.slice (some ⟨g, 0, none⟩) B.length c, .int .i64 0]) ∧ RdB w' (some ⟨g, 0, none⟩) B
set_option maxHeartbeats 2000000 in
theorem one_calls (A : Option Addr) (c : Nat) (L : List Nat) (w : World) (hr : RdB w A L) (hb : Bytes L) (hc : L.length ≤ c) (hl : L.length ≤ 1099511627776) :
    Calls Try.prog 12 #[.slice A L.length c] w (OnePost w (oneB L)) := by
  have K := first_calls A c L w hr hb hc hl
  cases hf : firstB L with
  | none =>
    rw [hf] at K
    have KF := Lib.hid K
    have HF : Hid (oneB L = none) := Lib.hid (by unfold oneB; rw [hf])
    clear K hf hr hb
    go_enter Try.func12, Try.ntmps12
    go_wp2_with fail
    refine KF.out.mono ?_
    rintro e w1 ⟨rfl, hB⟩
    have HB := Lib.hid hB
    clear hB KF
    simp only [firstA]
    go_wp2
    go_ret2
    rw [HF.out]
    exact ⟨HB.out, rfl⟩
  | some n =>
    rw [hf] at K
    obtain ⟨h8, h1, h2, h9, hn⟩ := firstB_some hf
    obtain ⟨b, o, rfl, hcell⟩ := hr.2 (by omega)
    have ef : firstA (some ⟨b, o, none⟩) c (some n) = .slice (some ⟨b, o + 8, none⟩) n (c - 8) := rfl
    rw [ef] at K
    have KF := Lib.hid K
    have HBo := Lib.hid (body_rdb hcell h9 hl)
    have hbl := bodyOf_length h9
    have KO := Lib.hid (fun W (h : RdB W (some ⟨b, o + 8, none⟩) (bodyOf L n)) => own_calls (some ⟨b, o + 8, none⟩) (c - 8) (bodyOf L n) W h (by omega))
    rw [hbl] at KO
    by_cases he : L.length = 9 + n
    · have HF : Hid (oneB L = some (bodyOf L n)) := Lib.hid (by unfold oneB; rw [hf]; simp [he])
      have HL := Lib.hid hbl
      have hne : ((L.length : Int) != 8 + (n : Int) + 1) = false := by rw [bne_eq_false_iff_eq]; omega
      clear K hf hr hb hcell hbl hn he
      go_enter Try.func12, Try.ntmps12
      go_wp2_with fail
      refine KF.out.mono ?_
      rintro e w1 ⟨rfl, hB⟩
      have HB := Lib.hid hB
      have HBo2 := Lib.hid (HBo.out.below hB)
      clear hB KF
      go_wp2_with fail
      refine (KO.out w1 HBo2.out).mono ?_
      rintro e w2 ⟨rfl, hg, hB⟩
      have HB2 := Lib.hid (below_then HB.out HB.out.size hB)
      have HG := Lib.hid hg
      clear hB hg
      go_wp2
      go_ret2
      rw [HF.out]
      exact ⟨HB2.out, w1.heap.size, n, by rw [HL.out]; rfl, own_rdb HG.out (by have := HL.out; omega)⟩
    · have HF : Hid (oneB L = none) := Lib.hid (by unfold oneB; rw [hf]; simp [he])
      have hne : ((L.length : Int) != 8 + (n : Int) + 1) = true := by rw [bne_iff_ne]; omega
      clear K hf hr hb hcell hbl hn he
      go_enter Try.func12, Try.ntmps12
      go_wp2_with fail
      refine KF.out.mono ?_
      rintro e w1 ⟨rfl, hB⟩
      have HB := Lib.hid hB
      clear hB KF
      go_wp2
      go_ret2
      rw [HF.out]
      exact ⟨HB.out, rfl⟩
end Go.Proofs.Ytbcijdgpaglbnaa.Q
