import Derived.Test.YtfkbknkmanphfaaRa
namespace Go.Proofs.Ytfkbknkmanphfaa.Q
open Go.RowKit Go.Proofs.YtfkbknkmanphfaaW.PrintWords Go.Sort
set_option linter.unusedVariables false
set_option linter.unusedSimpArgs false

theorem below_of_grown {w0 w w' : World} {row : Option Nat} (hB : Below w0.heap.size w0 w) (hg : w.grownBy w' row) (hr : ∀ k, row = some k → w0.heap.size ≤ k) : Below w0.heap.size w0 w' :=
  ⟨hg.os.trans hB.os, hg.tape.trans hB.tape, hg.output.trans hB.output, Nat.le_trans hB.size hg.size, fun k hk => (hg.block k (Nat.lt_of_lt_of_le hk hB.size) (fun h => by have := hr k h.symm; omega)).trans (hB.block k hk)⟩
theorem new_cell (w : World) (v : Value) (t : TypeId) : ∀ j u, [v][j]? = some u → (w.alloc (.cells #[v] t)).cell? ((⟨w.heap.size, 0, none⟩ : Addr).add j) = some u := fun j u hu => by
  have hj : j = 0 := by
    have := (List.getElem?_eq_some_iff.1 hu).1
    simp at this
    omega
  subst hj
  rw [show (⟨w.heap.size, 0, none⟩ : Addr).add 0 = ⟨w.heap.size, 0, none⟩ from rfl, cell_of_row _ _ 0 _ _ _ (heap_alloc_new w _)]
  simpa using hu
def rowI (ws : List Int) (k : Nat) : List Value := (ws.take k).map (Value.int .i64)
theorem take_succ_map (ws : List Int) (k : Nat) (hk : k < ws.length) : rowI ws k ++ [Value.int .i64 (ws.getD k 0)] = rowI ws (k + 1) := by
  unfold rowI
  rw [List.take_succ_eq_append_getElem hk, List.map_append]
  simp [List.getD_eq_getElem?_getD, hk]
set_option maxHeartbeats 2000000 in
theorem copy_calls (A : Option Addr) (c : Nat) (ws : List Int) (w : World) (hr : Rd w A ws) (h1 : 1 ≤ ws.length) (h7 : ws.length ≤ 7) :
    Calls Try.prog 32 #[.slice A ws.length c] w fun e w' => ∃ g c', e = .returned (.slice (some ⟨g, 0, none⟩) ws.length c') ∧ w.heap.size ≤ g ∧ g < w'.heap.size ∧ (∀ i, i < ws.length → w'.cell? ⟨g, i, none⟩ = some (.int .i64 (ws.getD i 0))) ∧ Below w.heap.size w w' := by
  obtain ⟨ad, rfl, hc⟩ := hr.2 (by omega)
  have HC := Lib.hid hc
  obtain ⟨i0, hi, hz0, hz1, hz2⟩ := info_parts infoI
  have HI := Lib.hid hi
  have HZ0 := Lib.hid hz0
  have HZ1 := Lib.hid hz1
  have HZ2 := Lib.hid hz2
  clear hc hr hi hz0 hz1 hz2
  go_enter Try.func32, Try.ntmps32
  go_wp2
  go_loopw [3, 4] (fun v t wr => ∃ k : Nat, k ≤ ws.length ∧ t = .int .i64 k ∧ Hid (wr.ownsRow w.heap.size 3 1 v k (rowI ws k)) ∧ Hid (Below w.heap.size w wr)) (fun _ t _ => ws.length - (intOf t).toNat)
  case atStart => exact ⟨0, by omega, rfl, Lib.hid (by simpa [rowI] using World.ownsRow_nil w w.heap.size 3 1), Lib.hid (Below.refl _ _)⟩
  case round =>
    obtain ⟨k, hk, rfl, HO, HB⟩ := hrel
    by_cases hlt : k < ws.length
    · have x0 := pw_cell_below HB.out (HC.out k hlt)
      have HT := Lib.hid (take_succ_map ws k hlt)
      obtain ⟨y, hy⟩ : ∃ y, ws.getD k 0 = y := ⟨_, rfl⟩
      rw [hy] at x0 HT
      clear hy
      go_wp2_with (at_builtin; refine wpList_append_own _ rfl (.tmp 11) (.tmp 16) 22 rfl w.heap.size 3 i0 (.int .i64 0) 1 8 Try.underlying22 HI.out HZ0.out HZ1.out HZ2.out rfl (by decide) u3 k _ rfl (HO.out.alloc _) ⟨wr.heap.size, 0, none⟩ 1 1 [.int .i64 y] rfl rfl (new_cell _ _ _) (by simp [Value.oneCell']) (by unfold maxLen; omega) (by omega) (by have := HB.out.size; simp; omega) ?_)
      intro v' w' ho hg _
      rw [HT.out] at ho
      have hB2 := Lib.hid (below_of_grown (below_alloc HB.out (.cells #[.int .i64 y] 3)) hg (fun j hj => (HO.out.lt j hj).1))
      have HO2 := Lib.hid ho
      clear ho hg HO
      go_wp2
      exact ⟨⟨k + 1, by omega, by go_num, HO2, hB2⟩, by simp [intOf]; omega⟩
    · obtain rfl : k = ws.length := by omega
      go_wp2
      go_ret
      obtain ⟨g, c', hv, hb, _⟩ := HO.out.form (by omega)
      have hl := HO.out.lt g (by rw [hv]; rfl)
      refine ⟨g, c', by rw [← hv]; rfl, hb, hl.2, fun i hi => ?_, HB.out⟩
      have := HO.out.cells (g := g) (by rw [hv]; rfl) i (.int .i64 (ws.getD i 0)) (by simp [rowI, List.getD_eq_getElem?_getD, hi])
      rwa [add_plain] at this
end Go.Proofs.Ytfkbknkmanphfaa.Q
