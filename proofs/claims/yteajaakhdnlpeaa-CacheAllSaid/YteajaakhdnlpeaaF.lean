import Derived.Test.YteajaakhdnlpeaaD
import Derived.Deep.RegionLaw
import Derived.RangeFuncBox
import Derived.RangeFuncLeaves
import Derived.Shelf.Abstract
import Derived.OwnWalkIn
import Derived.TacticsInMore
import Derived.LoopNIn
import Derived.LoopIn
namespace Go.Proofs.Yteajaakhdnlpeaa.Q
open Go.RowKit Go.Shelf Go.Proofs.YteajaakhdnlpeaaW.PrintWords Go.Deep
set_option linter.unusedVariables false
set_option linter.unusedSimpArgs false
attribute [local go_sem] Oper.semAt_some

/-! ### the closure that All gives: over a list boxed at Bs -/
def upto {α : Type} (f : Nat → α) (k : Nat) : List α := (List.range k).map f
theorem upto_succ {α : Type} (f : Nat → α) (k : Nat) : upto f (k + 1) = upto f k ++ [f k] := by simp [upto, List.range_succ]
theorem upto_length {α : Type} (f : Nat → α) (k : Nat) : (upto f k).length = k := by simp [upto]

set_option maxRecDepth 100000 in
set_option maxHeartbeats 2000000 in
theorem each_in (F : Fence) (n : Nat) (h8 : F.fn 31) (hro : F.round = none) (hn : 1 ≤ n) (l Bs n₀ b off len cap : Nat) (zs : List Int) (hreach : len ≤ 4194304) (hb : b < n₀) (J Jx : List (Nat × Int) → World → Prop)
    (hY : ∀ pre x W, J pre W → pre.length < len → YieldAt F (n - 1) Try.prog l #[.int .i64 (x.1 : Int), .int .i64 x.2] W fun e W' =>
      (e = .returned (.bool true) ∧ J (pre ++ [x]) W' ∧ Below n₀ W W') ∨ (e = .returned (.bool false) ∧ Jx (pre ++ [x]) W'))
    (W : World) (hBs : W.cell? ⟨Bs, 0, none⟩ = some (.slice (some ⟨b, off, none⟩) len cap)) (hc : ∀ j, j < len → W.cell? ⟨b, off + j, none⟩ = some (.int .i64 (zs[j]?.getD 0))) (h0 : J [] W) :
    CallsIn F n Try.prog 31 #[.func (.yield l) #[] #[], .pointer (some ⟨Bs, 0, none⟩)] W fun e W' => (∃ v, e = .returned v) ∧
      ((∃ ys, ys = upto (fun j => (j, zs[j]?.getD 0)) len ∧ J ys W') ∨ (∃ pre, (∃ k, k ≤ len ∧ pre = upto (fun j => (j, zs[j]?.getD 0)) k) ∧ Jx pre W')) := by
  refine callsIn_of_wp Try.func31 rfl h8 ?_ hro
  simp only [Try.ntmps31, List.size_toArray, List.length_cons, List.length_nil, Nat.reduceAdd, Nat.reduceSub, Array.replicate_succ, Array.replicate_zero, List.push_toArray, List.append_toArray, List.nil_append, List.cons_append]
  gi_wp2
  gi_loopw [7] (fun i wr => ∃ k : Nat, k ≤ len ∧ i = .int .i64 k ∧ J (upto (fun j => (j, zs[j]?.getD 0)) k) wr ∧ Below n₀ W wr)
    (fun i _ => len - (intOf i).toNat)
  case atStart => exact ⟨0, Nat.zero_le _, rfl, h0, Below.refl _ _⟩
  case round =>
    obtain ⟨k, hk, rfl, hJs, hnx⟩ := hrel
    have hcx : k < len → wr.cell? ⟨b, off + k, none⟩ = some (.int .i64 (zs[k]?.getD 0)) := fun h => (hnx.cell (p := ⟨b, off + k, none⟩) hb).trans (hc k h)
    by_cases hlt : k < len
    · obtain ⟨fn, tmps, assign, body, hy, hR⟩ := hY _ (k, zs[k]?.getD 0) wr hJs (by rw [upto_length]; exact hlt)
      dsimp only at hy
      have hcx' := hcx hlt
      gi_wp2
      refine hR.mono ?_
      rintro e W3 (⟨rfl, hJ3, hk3⟩ | ⟨rfl, hJx3⟩)
      · gi_wp2
        go_roundw
        case rel => exact ⟨k + 1, by omega, by simp, by rw [upto_succ]; exact hJ3, hnx.trans hk3⟩
        case measure => simp [intOf]; omega
      · gi_wp2
        refine bodyPost_ret (results_none rfl _ _ _) rfl ?_
        exact ⟨⟨_, rfl⟩, .inr ⟨_, ⟨k + 1, by omega, (upto_succ _ _).symm⟩, hJx3⟩⟩
    · obtain rfl : k = len := by omega
      gi_wp2
      go_end0
      exact ⟨⟨_, rfl⟩, .inl ⟨_, rfl, hJs⟩⟩
set_option maxRecDepth 100000 in
set_option maxHeartbeats 1000000 in
theorem each_nil (F : Fence) (n : Nat) (h8 : F.fn 31) (hro : F.round = none) (l Bs : Nat) (J : List (Nat × Int) → World → Prop) (W : World) (hBs : W.cell? ⟨Bs, 0, none⟩ = some (.slice none 0 0)) (h0 : J [] W) :
    CallsIn F n Try.prog 31 #[.func (.yield l) #[] #[], .pointer (some ⟨Bs, 0, none⟩)] W fun e W' => (∃ v, e = .returned v) ∧ J [] W' := by
  refine callsIn_of_wp Try.func31 rfl h8 ?_ hro
  simp only [Try.ntmps31, List.size_toArray, List.length_cons, List.length_nil, Nat.reduceAdd, Nat.reduceSub, Array.replicate_succ, Array.replicate_zero, List.push_toArray, List.append_toArray, List.nil_append, List.cons_append]
  gi_wp2
  gi_loopw [7] (fun i wr => i = .int .i64 0 ∧ J [] wr) (fun _ _ => 0)
  case atStart => exact ⟨rfl, h0⟩
  case round =>
    obtain ⟨rfl, hJs⟩ := hrel
    gi_wp2
    go_end0
    exact ⟨⟨_, rfl⟩, hJs⟩
/-- the slice value holds the numbers, in a block below n₀; or it is nil and there are none -/
def IntsAt (lo n₀ : Nat) (W : World) (sv : Value) (zs : List Int) : Prop :=
  (sv = .slice none 0 0 ∧ zs = []) ∨ ∃ b off cap, sv = .slice (some ⟨b, off, none⟩) zs.length cap ∧ (lo ≤ b ∧ b < n₀) ∧ ∀ j, j < zs.length → W.cell? ⟨b, off + j, none⟩ = some (.int .i64 (zs[j]?.getD 0))
theorem IntsAt.below {lo n₀ : Nat} {A B : World} (h : Below n₀ A B) {sv : Value} {zs : List Int} : IntsAt lo n₀ A sv zs → IntsAt lo n₀ B sv zs
  | .inl e => .inl e
  | .inr ⟨b, off, cap, e, hb, hc⟩ => .inr ⟨b, off, cap, e, hb, fun j hj => (h.cell (p := ⟨b, off + j, none⟩) hb.2).trans (hc j hj)⟩
theorem IntsAt.keep {lo n₀ n₁ : Nat} {A B : World} (hk : ∀ j, lo ≤ j → j < n₀ → B.heap[j]? = A.heap[j]?) (hn : n₀ ≤ n₁) {sv : Value} {zs : List Int} : IntsAt lo n₀ A sv zs → IntsAt lo n₁ B sv zs
  | .inl e => .inl e
  | .inr ⟨b, off, cap, e, hb, hc⟩ => .inr ⟨b, off, cap, e, ⟨hb.1, by omega⟩, fun j hj => (World.cell?_of_block (w := A) (hk b hb.1 hb.2)).trans (hc j hj)⟩
theorem each_stops (F : Fence) (n : Nat) (h8 : F.fn 31) (hro : F.round = none) (hn : 1 ≤ n) (Bs lo n₀ : Nat) (sv : Value) (zs : List Int) (hreach : zs.length ≤ 4194304) (w : World) (hBs : Bs < w.heap.size) (hn₀ : n₀ ≤ w.heap.size)
    (hc : w.cell? ⟨Bs, 0, none⟩ = some sv) (hI : IntsAt lo n₀ w sv zs) :
    SeqStopsK F n Try.prog 31 #[.pointer (some ⟨Bs, 0, none⟩)] (fun x : Nat × Int => #[Value.int .i64 (x.1 : Int), Value.int .i64 x.2]) (Below n₀) (fun ys => ys = upto (fun j => (j, zs[j]?.getD 0)) zs.length)
      (fun pre => ∃ k, k ≤ zs.length ∧ pre = upto (fun j => (j, zs[j]?.getD 0)) k) zs.length w := fun l J Jx W hW _ _ hY h0 => by
  have hc' := (hW.cell (p := ⟨Bs, 0, none⟩) hBs).trans hc
  rcases hI.below (hW.mono hn₀) with ⟨rfl, rfl⟩ | ⟨b, off, cap, rfl, hb, hcs⟩
  · exact (each_nil F n h8 hro l Bs J W hc' h0).mono fun e W' ⟨he, hj⟩ => ⟨he, .inl ⟨_, rfl, hj⟩⟩
  · exact each_in F n h8 hro hn l Bs n₀ b off zs.length cap zs hreach hb.2 J Jx hY W hc' hcs h0

/-! ### All -/
theorem owns_ints {W : World} {base : Nat} {v : Value} {L : List Int} (h : W.ownsRow base 2 1 v L.length (ints L)) : IntsAt base W.heap.size W v L := by
  rcases h.2 with ⟨rfl, h0⟩ | ⟨g, cap, cur, rfl, _⟩
  · exact .inl ⟨rfl, List.length_eq_zero_iff.1 h0⟩
  · refine .inr ⟨g, 0, cap, rfl, h.lt g rfl, fun j hj => ?_⟩
    have := h.cells (g := g) rfl j (.int .i64 (L[j]?.getD 0)) (by simp [ints, hj])
    rw [Addr.add_mid] at this
    exact this
theorem take_more {α : Type} (xs : List α) (k : Nat) (d : α) (h : k < xs.length) : xs.take (k + 1) = xs.take k ++ [xs.getD k d] := by
  rw [List.take_succ_eq_append_getElem h]
  simp [List.getD_eq_getElem?_getD, h]
set_option maxRecDepth 100000 in
set_option maxHeartbeats 4000000 in
theorem all_calls (b most : Nat) (L : List Int) (w : World) (h : RingI 83 w b most (ints L)) :
    Calls Try.prog 19 #[.pointer (some ⟨b, 0, none⟩)] w fun e w' => ∃ c sv, e = .returned (.func (.func 31) #[] #[.pointer (some ⟨c, 0, none⟩)]) ∧ w.heap.size ≤ c ∧ w'.cell? ⟨c, 0, none⟩ = some sv ∧ IntsAt w.heap.size w'.heap.size w' sv L ∧ Below w.heap.size w w' := by
  have hL : (ints L).length = L.length := by simp [ints]
  have h64 := ring_len h
  rw [hL] at h64
  have hb := h.lt
  have HR1 := Lib.hid (h.below (below_alloc (Below.refl w.heap.size w) (.cells #[.slice none 0 0] 32)))
  have KL := len_int b most (ints L) _ HR1.out
  rw [hL] at KL
  have K := Lib.hid KL
  have HR := Lib.hid h
  obtain ⟨i0, hi, hz0, hz1, hz2⟩ := info_parts infoI
  have HI := Lib.hid (And.intro hi (And.intro hz0 (And.intro hz1 hz2)))
  have N1 := Boxed.new w 32 (.slice none 0 0)
  have O1 := World.ownsRow_nil (w.alloc (.cells #[.slice none 0 0] 32)) w.heap.size 2 1
  have B1 := below_alloc (Below.refl w.heap.size w) (.cells #[.slice none 0 0] 32)
  have HN := Lib.hid (And.intro N1 (And.intro O1 B1))
  clear h KL hi hz0 hz1 hz2 N1 O1 B1 HR1
  go_enter Try.func19, Try.ntmps19
  go_wp2_with fail
  refine K.out.mono ?_
  rintro e w' ⟨rfl, rfl⟩
  go_wp2_with fail
  go_loopw [7] (fun t wr => ∃ k : Nat, k ≤ L.length ∧ t = .int .i64 k ∧ Hid (∃ v, Boxed wr w.heap.size 32 v ∧ wr.ownsRow w.heap.size 2 1 v k (ints (L.take k))) ∧ Hid (Below w.heap.size w wr)) (fun t _ => L.length - (intOf t).toNat)
  case atStart => exact ⟨0, by omega, rfl, Lib.hid ⟨_, HN.out.1, by simpa [ints] using HN.out.2.1⟩, Lib.hid HN.out.2.2⟩
  case round =>
    clear HN K
    obtain ⟨k, hk, rfl, HO, HB⟩ := hrel
    by_cases hlt : k < L.length
    · obtain ⟨v, hbox, hown⟩ := HO.out
      obtain ⟨f, P, hr, hf, l1, l2, hp⟩ := HR.out.below HB.out
      have c2 : wr.cell? ⟨b, 2, none⟩ = some (.int .i64 f) := hr.cell (by omega)
      have hq := hp k (by omega)
      rw [ints_getD L k hlt] at hq
      have hm : (f + k) % 64 < 64 := Nat.mod_lt _ (by decide)
      have KP := Lib.hid (fun W c2 => place_int b f k W c2 hf (by omega))
      have HT : Hid (ints (L.take k) ++ [.int .i64 (L.getD k 0)] = ints (L.take (k + 1))) := Lib.hid (by
        rw [take_more L k 0 hlt]; simp [ints])
      obtain ⟨p, ep⟩ : ∃ p, (f + k) % 64 = p := ⟨_, rfl⟩
      obtain ⟨y, ey⟩ : ∃ y, L.getD k 0 = y := ⟨_, rfl⟩
      rw [ep] at hq hm KP
      rw [ey] at hq HT
      have hm0 : (0 : Int) ≤ (p : Int) := Int.natCast_nonneg _
      have hm1 : (p : Int) < 64 := by omega
      have c4 : wr.cell? ⟨b, 4 + p, none⟩ = some (.int .i64 y) := by
        rw [hr.cell (by omega), Nat.add_comm, ← hq]; rfl
      have c0 := hbox.cell
      have z0 := hbox.frozen
      have hsz := HB.out.size
      have HBX := Lib.hid hbox
      have HOW := Lib.hid hown
      have ag : v.ownBlock ≠ some w.heap.size := (hbox.not_row (by decide) hown).symm
      have ab : v.ownBlock ≠ some b := fun e => by have := (hown.lt b e).1; omega
      have hbr : b < wr.heap.size := by omega
      have hwr : w.heap.size < wr.heap.size := hbox.lt
      clear hr hp hq ep ey hbox hown HO
      go_wp2_with fail
      have new1 := World.new_ne wr ⟨w.heap.size, 0, none⟩ c0
      have bne : b ≠ w.heap.size := by omega
      go_region_law (first
          | (refine step_append_lies _ (by rfl) _ _ _ (by rfl) w.heap.size 2 i0 _ 1 8 Try.underlying32 HI.out.1 HI.out.2.1 HI.out.2.2.1 HI.out.2.2.2 rfl (by omega) v k _ (by rfl) ((HOW.out.alloc _).drew) ⟨wr.heap.size, 0, none⟩ 1 1 [.int .i64 y] (by rfl) (by rfl) (World.news_of_block (cs := #[.int .i64 y]) (t := 2) (fr := (0, 0)) (heap_alloc_new wr _)) (by simp [Value.oneCell']) (by omega) (by unfold maxLen; omega) (by omega) (by simp; omega) (wr.heap.size + 1) (by simp) ?_; intro g cap w1 hown1 hgrow hat hgl; have hbx := Boxed.kept (W := (wr.alloc (.cells #[.int .i64 y] 2)).drew) (HBX.out.alloc _) hgrow (Ne.symm ag); have q1 := hbx.cell; have q2 := hbx.frozen; have new2 : w1.heap.size ≠ w.heap.size := by have := hbx.lt; omega)
          | (go_simp; go_at_call 28; refine (KP.out _ ?_).mono ?_; (simp [*]); rintro e w' ⟨rfl, rfl⟩))
      all_goals (
        obtain ⟨-, a2, a3, -, a5⟩ := Boxed.appended (W := wr.drew) (tmp := .cells #[.int .i64 y] 2) HBX.out (by decide) HOW.out (Nat.le_of_lt hwr) (Nat.le_refl _) hown1 hgrow
        rw [HT.out] at a3
        have HO2 : Hid (∃ v, Boxed (w1.setCell ⟨w.heap.size, 0, none⟩ (.slice (some ⟨g, 0, none⟩) (k + 1) cap)) w.heap.size 32 v ∧ (w1.setCell ⟨w.heap.size, 0, none⟩ (.slice (some ⟨g, 0, none⟩) (k + 1) cap)).ownsRow w.heap.size 2 1 v (k + 1) (ints (L.take (k + 1)))) := Lib.hid ⟨_, a2, a3⟩
        have HB2 := Lib.hid (HB.out.drew.trans a5)
        clear a2 a3 a5 hbx q1 q2 hown1 hgrow hat
        go_wp2
        exact ⟨⟨k + 1, by omega, by go_num, HO2, HB2⟩, by simp [intOf]; omega⟩)
    · obtain rfl : k = L.length := by omega
      obtain ⟨v, hbox, hown⟩ := HO.out
      have HX := Lib.hid (And.intro hbox hown)
      clear hbox hown HO
      go_wp2
      go_ret
      refine ⟨w.heap.size, v, rfl, Nat.le_refl _, HX.out.1.cell, ?_, HB.out⟩
      rw [List.take_length] at HX
      exact owns_ints HX.out.2
end Go.Proofs.Yteajaakhdnlpeaa.Q
