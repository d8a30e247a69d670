import Derived.Test.YtfkbknkmanphfaaRc
import Derived.Deep.OwnRows
namespace Go.Proofs.Ytfkbknkmanphfaa.Q
open Go.RowKit Go.Proofs.YtfkbknkmanphfaaW.PrintWords Go.Sort Go.Deep
set_option linter.unusedVariables false
set_option linter.unusedSimpArgs false

/-! LISTS WITH MARKS BEHIND THEM -/
def valW (ws : List Int) (i : Nat) : Int := if i < ws.length then ws.getD i 0 else -3000000 - i
def Wide (w : World) (g : Nat) (ws : List Int) (F : Nat → Int) : Prop := w.rowIs g 3 (ws.length + 64) (fun i => .int .i64 (F i))

set_option maxHeartbeats 4000000 in
theorem wide_calls (A : Option Addr) (c : Nat) (ws : List Int) (w : World) (hr : Rd w A ws) (hl : ws.length < 2147483647) :
    Calls Try.prog 21 #[.slice A ws.length c] w fun e w' => ∃ g, e = .returned (.slice (some ⟨g, 0, none⟩) ws.length (ws.length + 64)) ∧ w.heap.size ≤ g ∧ w'.rowIs g 3 (ws.length + 64) (fun i => .int .i64 (valW ws i)) ∧ Below w.heap.size w w' := by
  have HC := Lib.hid hr.2
  obtain ⟨i0, hi, hz0, hz1, hz2⟩ := info_parts infoI
  have HI := Lib.hid (And.intro hi (And.intro hz0 (And.intro hz1 hz2)))
  clear hr hi hz0 hz1 hz2
  go_enter Try.func21, Try.ntmps21
  go_wp2_with (refine wpList_make_row _ rfl _ _ 22 rfl 3 i0 (.int .i64 0) Try.underlying22 HI.out.1 HI.out.2.1 HI.out.2.2.1 rfl .i64 .i64 (ws.length + 64) rfl rfl (by rw [HI.out.2.2.2]; omega) (by omega) ?_)
  go_loopw [4] (fun t wr => ∃ k : Nat, k ≤ ws.length + 64 ∧ t = .int .i64 k ∧ Hid (wr.rowIs w.heap.size 3 (ws.length + 64) (fun i => .int .i64 (if i < k then valW ws i else 0))) ∧ Hid (Below w.heap.size w wr)) (fun t _ => ws.length + 64 - (intOf t).toNat)
  case atStart => exact ⟨0, by omega, rfl, Lib.hid ((World.rowIs_made w (.int .i64 0) _ 3).congr (fun i hi => by simp)), Lib.hid (below_alloc (Below.refl _ _) _)⟩
  case round =>
    obtain ⟨k, hk, rfl, HR, HB⟩ := hrel
    by_cases hlt : k < ws.length + 64
    · have r0 := HR.out.cell hlt
      have f0 := HR.out.frozen k
      have HN : Hid (∀ y, y = valW ws k → (wr.setCell ⟨w.heap.size, k, none⟩ (.int .i64 y)).rowIs w.heap.size 3 (ws.length + 64) (fun i => .int .i64 (if i < k + 1 then valW ws i else 0))) := Lib.hid (fun y hy => (HR.out.set k (.int .i64 y)).congr (fun i hi => by
        by_cases e : i = k
        · subst e; simp [hy]
        · have : (i < k + 1) = (i < k) := by simp; omega
          simp [e, this]))
      have HBN : Hid (∀ y, Below w.heap.size w (wr.setCell ⟨w.heap.size, k, none⟩ (.int .i64 y))) := Lib.hid (fun y => HB.out.setCell (Nat.le_refl _) _)
      by_cases hn : k < ws.length
      · obtain ⟨ad, rfl, hc⟩ := HC.out (by omega)
        have x0 := pw_cell_below HB.out (hc k hn)
        have HY := Lib.hid (show ws.getD k 0 = valW ws k by simp [valW, hn])
        obtain ⟨y, hy⟩ : ∃ y, ws.getD k 0 = y := ⟨_, rfl⟩
        rw [hy] at x0 HY
        clear hc hy
        go_wp2
        exact ⟨⟨k + 1, by omega, by go_num, Lib.hid (HN.out _ HY.out), Lib.hid (HBN.out _)⟩, by simp [intOf]; omega⟩
      · have HY := Lib.hid (show (-3000000 : Int) - (k : Int) = valW ws k by simp [valW, hn])
        go_wp2
        exact ⟨⟨k + 1, by omega, by go_num, Lib.hid (HN.out _ HY.out), Lib.hid (HBN.out _)⟩, by simp [intOf]; omega⟩
    · obtain rfl : k = ws.length + 64 := by omega
      have hcut := cut_to (P := Try.prog) 22 3 .i64 Try.underlying22 HI.out.1 (some ⟨w.heap.size, 0, none⟩) (ws.length + 64) (ws.length + 64) (ws.length : Int) (by omega) (by omega) (Nat.le_refl _)
      go_wp2
      go_ret
      exact ⟨w.heap.size, rfl, Nat.le_refl _, HR.out.congr (fun i hi => by simp [hi]), HB.out⟩

theorem cut_up {P : Program} (t e : TypeId) (kh : IntKind) {i : TypeInfo} (ht : P.underlying t = some (.slice e)) (hi : P.info? e = some i) (A : Option Addr) (n c : Nat) (j : Int) (h0 : 0 ≤ j) (hm : j ≤ c) :
    ∀ W : World, (Instr.slice t (.slice A n c) none (some (.int kh j)) none).run P W = .ok (.slice A j.toNat c) W := by
  intro W
  have hel : P.elem t = e := by simp [Program.elem, ht]
  have hu : P.underlying t = some (.slice (P.elem t)) := by rw [hel]; exact ht
  have ha : (A.map fun x => x.add 0) = A := by cases A <;> simp [Addr.add]
  rw [run_slice_h W t A n c hu kh j h0 (by omega), hel]
  simp [sizeOf, typeInfo, hi, sliced, Result.andThen, ha]
set_option maxHeartbeats 4000000 in
theorem spare_calls (g : Nat) (ws : List Int) (w : World) (hl : ws.length < 2147483647) (h : w.rowIs g 3 (ws.length + 64) (fun i => .int .i64 (valW ws i))) :
    Calls Try.prog 23 #[.slice (some ⟨g, 0, none⟩) ws.length (ws.length + 64)] w fun e w' => e = .returned (.bool true) ∧ w = w' := by
  have HR := Lib.hid h
  obtain ⟨i0, hi, hz0, hz1, hz2⟩ := info_parts infoI
  have hcut := cut_up (P := Try.prog) 22 3 .i64 Try.underlying22 hi (some ⟨g, 0, none⟩) ws.length (ws.length + 64) ((ws.length : Int) + 64) (by omega) (by omega)
  clear h
  go_enter Try.func23, Try.ntmps23
  go_wp2
  go_loop [4] (fun t => ∃ k : Nat, ws.length ≤ k ∧ k ≤ ws.length + 64 ∧ t = .int .i64 k) (fun t => ws.length + 64 - (intOf t).toNat)
  case atStart => exact ⟨ws.length, by omega, by omega, rfl⟩
  case round =>
    obtain ⟨k, h0, hk, rfl⟩ := hrel
    by_cases hlt : k < ws.length + 64
    · have x0 : w.cell? ⟨g, k, none⟩ = some (.int .i64 (-3000000 - k)) := by rw [HR.out.cell hlt]; simp [valW, show ¬ k < ws.length by omega]
      go_wp2
      exact ⟨⟨k + 1, by omega, by omega, by go_num⟩, by simp [intOf]; omega⟩
    · obtain rfl : k = ws.length + 64 := by omega
      go_wp2
      go_ret
      exact ⟨rfl, rfl⟩
set_option maxHeartbeats 4000000 in
theorem eq_calls (g : Nat) (A : Option Addr) (c : Nat) (ws : List Int) (w : World) (hl : ws.length < 2147483647) (h : w.rowIs g 3 (ws.length + 64) (fun i => .int .i64 (valW ws i))) (hr : Rd w A ws) :
    Calls Try.prog 22 #[.slice (some ⟨g, 0, none⟩) ws.length (ws.length + 64), .slice A ws.length c] w fun e w' => e = .returned (.bool true) ∧ Below w.heap.size w w' := by
  have HR := Lib.hid h
  have HC := Lib.hid hr.2
  have hne : ((ws.length : Int) != (ws.length : Int)) = false := by simp
  clear h hr
  go_enter Try.func22, Try.ntmps22
  go_wp2
  go_loopw [5] (fun t wr => ∃ k : Nat, k ≤ ws.length ∧ t = .int .i64 k ∧ Hid (Below w.heap.size w wr)) (fun t _ => ws.length - (intOf t).toNat)
  case atStart => exact ⟨0, by omega, rfl, Lib.hid (Below.refl _ _)⟩
  case round =>
    obtain ⟨k, hk, rfl, HB⟩ := hrel
    by_cases hlt : k < ws.length
    · have x0 : w.cell? ⟨g, k, none⟩ = some (.int .i64 (ws.getD k 0)) := by rw [HR.out.cell (by omega)]; simp [valW, hlt]
      obtain ⟨ad, rfl, hc⟩ := HC.out (by omega)
      have x0 := pw_cell_below HB.out x0
      have x1 := pw_cell_below HB.out (hc k hlt)
      obtain ⟨y, hy⟩ : ∃ y, ws.getD k 0 = y := ⟨_, rfl⟩
      rw [hy] at x0 x1
      clear hc hy
      go_wp2
      go_quiet (fail)
      go_wp2
      exact ⟨⟨k + 1, by omega, by go_num, Lib.hid (pw_below_drewN HB.out nq)⟩, by simp [intOf]; omega⟩
    · obtain rfl : k = ws.length := by omega
      go_wp2
      go_ret
      exact ⟨rfl, HB.out⟩
end Go.Proofs.Ytfkbknkmanphfaa.Q
