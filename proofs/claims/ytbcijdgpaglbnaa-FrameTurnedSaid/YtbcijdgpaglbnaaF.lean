import Derived.Test.YtbcijdgpaglbnaaE
import Derived.RangeFuncBox
import Derived.RangeFuncLeaves
import Derived.RangeFuncNested
import Derived.Shelf.Abstract
import Derived.OwnWalkIn
import Derived.TacticsInMore
import Derived.LoopNIn
import Derived.LoopIn
namespace Go.Proofs.Ytbcijdgpaglbnaa.Q
open Go.RowKit Go.Shelf Go.Proofs.YtbcijdgpaglbnaaW.PrintWords Go.Deep
set_option linter.unusedVariables false
set_option linter.unusedSimpArgs false
attribute [local go_sem] Oper.semAt_some

/-! THE FRAMES, ONE BEHIND THE OTHER -/
/-- where the k-th frame begins -/
def posTo (L : List Nat) : Nat → Nat
  | 0 => 0
  | k + 1 => posTo L k + 9 + (firstB (L.drop (posTo L k))).getD 0
def bodyN (L : List Nat) (k : Nat) : Option Nat := firstB (L.drop (posTo L k))
def cntFrom (L : List Nat) : Nat → Nat → Nat
  | 0, k => k
  | f + 1, k => if (bodyN L k).isSome then cntFrom L f (k + 1) else k
/-- how many there are -/
def cnt (L : List Nat) : Nat := cntFrom L L.length 0
theorem posTo_succ {L : List Nat} {k n : Nat} (h : bodyN L k = some n) : posTo L (k + 1) = posTo L k + 9 + n := by
  have h' : firstB (L.drop (posTo L k)) = some n := h
  simp only [posTo, h', Option.getD_some]
theorem body_fits {L : List Nat} {k n : Nat} (h : bodyN L k = some n) : posTo L k + 9 + n ≤ L.length ∧ 1 ≤ n ∧ n ≤ 1048576 := by
  obtain ⟨h8, h1, h2, h9, _⟩ := firstB_some h
  simp only [List.length_drop] at h8 h9
  omega
theorem cntFrom_spec (L : List Nat) : ∀ (f k : Nat), L.length ≤ f + posTo L k ∨ L.length < posTo L k + 9 → (∀ i, i < k → (bodyN L i).isSome = true) →
    bodyN L (cntFrom L f k) = none ∧ ∀ i, i < cntFrom L f k → (bodyN L i).isSome = true := by
  intro f
  induction f with
  | zero =>
    intro k hk hall
    refine ⟨?_, hall⟩
    cases hb : bodyN L k with
    | none => exact hb
    | some n => have := body_fits hb; omega
  | succ f ih =>
    intro k hk hall
    simp only [cntFrom]
    cases hb : bodyN L k with
    | none =>
      simp only [Option.isSome_none, Bool.false_eq_true, if_false]
      exact ⟨hb, hall⟩
    | some n =>
      simp only [Option.isSome_some, if_true]
      have hp := posTo_succ hb
      have hf := body_fits hb
      refine ih (k + 1) (by omega) (fun i hi => ?_)
      by_cases e : i = k
      · subst e; rw [hb]; rfl
      · exact hall i (by omega)
theorem cnt_none (L : List Nat) : bodyN L (cnt L) = none := (cntFrom_spec L L.length 0 (.inl (by simp [posTo])) (fun i hi => by omega)).1
theorem cnt_some (L : List Nat) (i : Nat) (h : i < cnt L) : (bodyN L i).isSome = true := (cntFrom_spec L L.length 0 (.inl (by simp [posTo])) (fun i hi => by omega)).2 i h
def frameAt (L : List Nat) (k : Nat) : Nat × Nat := (posTo L k, (bodyN L k).getD 0)
def upto {α : Type} (f : Nat → α) (k : Nat) : List α := (List.range k).map f
theorem upto_succ {α : Type} (f : Nat → α) (k : Nat) : upto f (k + 1) = upto f k ++ [f k] := by simp [upto, List.range_succ]
theorem upto_length {α : Type} (f : Nat → α) (k : Nat) : (upto f k).length = k := by simp [upto]
def encF (b o c : Nat) (x : Nat × Nat) : Array Value := #[.int .i64 ((x.1 : Int) + (8 + (x.2 : Int) + 1)), .slice (some ⟨b, o + x.1 + 8, none⟩) x.2 (c - x.1 - 8)]
def curV (b o c p : Nat) : Option Nat → Value
  | none => .slice none 0 0
  | some n => .slice (some ⟨b, o + p + 8, none⟩) n (c - p - 8)
theorem nil_neq (W : World) : (binOp .neq 25 (.slice none 0 0) (.slice none 0 0)).run Try.prog W = .ok (.bool false) W := run_neq_slice_nil_any W 25 5 none 0 0 0 0 Try.underlying25
theorem some_neq (a : Addr) (n c : Nat) (W : World) : (binOp .neq 25 (.slice (some a) n c) (.slice none 0 0)).run Try.prog W = .ok (.bool true) W := run_neq_slice_nil_any W 25 5 (some a) n c 0 0 Try.underlying25
attribute [local go_sem] nil_neq some_neq
theorem grown_of_below {W W' : World} (h : Below W.heap.size W W') : W.grownBy W' none := ⟨h.os, h.tape, h.output, h.size, fun k hk _ => h.block k hk⟩
/-- first, of what lies behind a place -/
theorem first_at (b o c : Nat) (L : List Nat) (W : World) (p : Nat) (hp : p ≤ L.length) (hcell : ∀ i, i < L.length → W.cell? ⟨b, o + i, none⟩ = some (.int .u8 (L.getD i 0))) (hb : Bytes L) (hc : L.length ≤ c) (hl : L.length ≤ 1099511627776) :
    Calls Try.prog 18 #[.slice (if c = p then some ⟨b, o, none⟩ else some ⟨b, o + p, none⟩) (L.length - p) (c - p)] W fun e w' => e = .returned (curV b o c p (firstB (L.drop p))) ∧ Below W.heap.size W w' := by
  have hr : RdB W (if c = p then some ⟨b, o, none⟩ else some ⟨b, o + p, none⟩) (L.drop p) := ⟨by simp; omega, fun h => by
    simp only [List.length_drop] at h
    rw [if_neg (by omega)]
    refine ⟨b, o + p, rfl, fun i hi => ?_⟩
    simp only [List.length_drop] at hi
    have := hcell (p + i) (by omega)
    rw [Nat.add_assoc, this]
    simp [List.getD_eq_getElem?_getD, List.getElem?_drop]⟩
  have K := first_calls _ (c - p) (L.drop p) W hr (hb.drop p) (by simp; omega) (by simp; omega)
  rw [List.length_drop] at K
  refine K.mono ?_
  rintro e w' ⟨he, hB⟩
  refine ⟨he.trans ?_, hB⟩
  cases hf : firstB (L.drop p) with
  | none => rfl
  | some n =>
    have := firstB_some hf
    simp only [List.length_drop] at this
    rw [if_neg (by omega)]
    rfl

set_option maxRecDepth 100000 in
set_option maxHeartbeats 4000000 in
theorem inner_in (n : Nat) (hn : 1 ≤ n) (S : Nat → Prop) (l Bs b o c : Nat) (L : List Nat) (hb : Bytes L) (hc : L.length ≤ c) (hl : L.length ≤ 1099511627776) (hbn : ¬ S b) (hBn : ¬ S Bs) (J Jx : List (Nat × Nat) → World → Prop)
    (hY : ∀ pre x W, J pre W → pre.length < cnt L → YieldAt Fence.wide (n - 1) Try.prog l (encF b o c x) W fun e W' =>
      (e = .returned (.bool true) ∧ J (pre ++ [x]) W' ∧ Only S W W') ∨ (e = .returned (.bool false) ∧ Jx (pre ++ [x]) W'))
    (W : World) (hJ : AbidesFrom W.heap.size J) (hBs : W.cell? ⟨Bs, 0, none⟩ = some (.slice (some ⟨b, o, none⟩) L.length c)) (hcell : ∀ i, i < L.length → W.cell? ⟨b, o + i, none⟩ = some (.int .u8 (L.getD i 0))) (h0 : J [] W) :
    CallsIn Fence.wide n Try.prog 23 #[.func (.yield l) #[] #[], .pointer (some ⟨Bs, 0, none⟩)] W fun e W' => (∃ v, e = .returned v) ∧
      ((∃ ys, ys = upto (frameAt L) (cnt L) ∧ J ys W') ∨ (∃ pre, (∃ k, k ≤ cnt L ∧ pre = upto (frameAt L) k) ∧ Jx pre W')) := by
  have HB := Lib.hid hb
  have HC := Lib.hid hcell
  have HJ := Lib.hid hJ
  have HY := Lib.hid hY
  obtain ⟨i0, hi, hz0, hz1, hz2⟩ := info_parts infoB
  have KS := Lib.hid (fun j h0 hm => cut_from (P := Try.prog) 25 5 .i64 Try.underlying25 hi 1 hz1 (some ⟨b, o, none⟩) L.length c j h0 hm)
  have K0 := first_at b o c L W 0 (by omega) hcell hb hc hl
  have e0 : (if c = 0 then some (⟨b, o, none⟩ : Addr) else some ⟨b, o + 0, none⟩) = some ⟨b, o, none⟩ := by split <;> rfl
  rw [e0, Nat.sub_zero, Nat.sub_zero, List.drop_zero] at K0
  obtain ⟨v0, hv0⟩ : ∃ v, curV b o c 0 (firstB L) = v := ⟨_, rfl⟩
  rw [hv0] at K0
  have HV0 := Lib.hid hv0
  have KF := Lib.hid K0
  clear hv0 hb hcell hJ hY hi hz0 hz1 hz2 K0 e0
  refine callsIn_of_wp Try.func23 rfl trivial ?_ rfl
  simp only [Try.ntmps23, List.size_toArray, List.length_cons, List.length_nil, Nat.reduceAdd, Nat.reduceSub, Array.replicate_succ, Array.replicate_zero, List.push_toArray, List.append_toArray, List.nil_append, List.cons_append]
  gi_wp2_with fail
  refine ⟨trivial, (callsIn_wide.2 KF.out).mono ?_⟩
  rintro e w1 ⟨rfl, hB⟩
  have J1 := HJ.out [] W w1 none h0 (grown_of_below hB) (fun r e => by cases e)
  have B1 : Only S W w1 := Only.of_below hB
  have S1 := Lib.hid (And.intro J1 B1)
  clear J1 B1 hB KF h0
  gi_wp2_with fail
  gi_loopw [3, 4] (fun p v wr => ∃ k : Nat, k ≤ cnt L ∧ p = .int .i64 (posTo L k) ∧ v = curV b o c (posTo L k) (bodyN L k) ∧ Hid (J (upto (frameAt L) k) wr ∧ Only S W wr)) (fun p _ _ => L.length - (intOf p).toNat)
  case atStart => exact ⟨0, by omega, rfl, by rw [← HV0.out]; simp [bodyN, posTo], S1⟩
  case round =>
    clear S1
    obtain ⟨k, hk, rfl, rfl, T⟩ := hrel
    cases hbk : bodyN L k with
    | none =>
      have hkc : k = cnt L := by
        by_cases e : k < cnt L
        · have := cnt_some L k e; rw [hbk] at this; cases this
        · omega
      simp only [curV]
      gi_wp2
      go_end0
      exact ⟨⟨_, rfl⟩, .inl ⟨_, by rw [hkc], T.out.1⟩⟩
    | some m =>
      have hkc : k < cnt L := by
        by_cases e : k < cnt L
        · exact e
        · have : k = cnt L := by omega
          rw [this, cnt_none] at hbk; cases hbk
      obtain ⟨f1, f2, f3⟩ := body_fits hbk
      have hp := posTo_succ hbk
      have hfr : frameAt L k = (posTo L k, m) := by simp [frameAt, hbk]
      have HU := Lib.hid (upto_succ (frameAt L) k)
      rw [hfr] at HU
      obtain ⟨fn, tmps, assign, body, hy, hR⟩ := HY.out _ (posTo L k, m) wr T.out.1 (by rw [upto_length]; exact hkc)
      simp only [encF] at hy
      have HR := Lib.hid hR
      have HP := Lib.hid hp
      obtain ⟨p, epp⟩ : ∃ p, posTo L k = p := ⟨_, rfl⟩
      simp only [curV]
      rw [epp] at hy HP f1 ⊢
      clear hR hp hbk hfr
      have q0 : (0 : Int) ≤ (p : Int) := Int.natCast_nonneg _
      gi_wp2_with fail
      refine HR.out.mono ?_
      rintro e W3 (⟨rfl, hJ3, hk3⟩ | ⟨rfl, hJx3⟩)
      · have B3 : Only S W W3 := T.out.2.trans hk3 (fun _ _ h => h)
        have x0 := B3.cell (p := ⟨Bs, 0, none⟩) hBs hBn
        have KF2 := first_at b o c L W3 (p + 9 + m) (by omega) (fun i hi => B3.cell (p := ⟨b, o + i, none⟩) (HC.out i hi) hbn) HB.out hc hl
        have hs := KS.out ((p : Int) + (8 + (m : Int) + 1)) (by omega) (by omega)
        have et : ((p : Int) + (8 + (m : Int) + 1)).toNat = p + 9 + m := by omega
        rw [et] at hs
        have ea : (if c = p + 9 + m then (some ⟨b, o, none⟩ : Option Addr) else (some ⟨b, o, none⟩ : Option Addr).map (·.add ((p + 9 + m) * 1))) = (if c = p + 9 + m then some ⟨b, o, none⟩ else some ⟨b, o + (p + 9 + m), none⟩) := by
          simp [Addr.add_mid]
        rw [ea] at hs
        obtain ⟨A2, hA2⟩ : ∃ A, (if c = p + 9 + m then (some ⟨b, o, none⟩ : Option Addr) else some ⟨b, o + (p + 9 + m), none⟩) = A := ⟨_, rfl⟩
        rw [hA2] at hs KF2
        obtain ⟨v3, hv3⟩ : ∃ v, curV b o c (p + 9 + m) (firstB (L.drop (p + 9 + m))) = v := ⟨_, rfl⟩
        rw [hv3] at KF2
        have HK := Lib.hid KF2
        have HV3 := Lib.hid hv3
        have S3 := Lib.hid (And.intro hJ3 B3)
        clear KF2 hv3 hA2 ea et hJ3 hk3 B3 T HR
        gi_wp2_with fail
        refine ⟨trivial, (callsIn_wide.2 HK.out).mono ?_⟩
        rintro e W4 ⟨rfl, hB4⟩
        have J4 := HJ.out _ W3 W4 none S3.out.1 (grown_of_below hB4) (fun r e => by cases e)
        rw [← HU.out] at J4
        have S4 := Lib.hid (And.intro J4 (S3.out.2.then_below hB4))
        clear J4 hB4 S3 HK
        gi_wp2
        go_roundw
        case rel => exact ⟨k + 1, by omega, by rw [HP.out]; congr 1; omega, by rw [HP.out, ← HV3.out]; simp only [bodyN, HP.out]; rfl, S4⟩
        case measure => simp [intOf]; omega
      · have HX := Lib.hid hJx3
        clear hJx3
        gi_wp2
        refine bodyPost_ret (results_none rfl _ _ _) rfl ?_
        exact ⟨⟨_, rfl⟩, .inr ⟨_, ⟨k + 1, by omega, rfl⟩, by rw [HU.out]; exact HX.out⟩⟩
end Go.Proofs.Ytbcijdgpaglbnaa.Q
